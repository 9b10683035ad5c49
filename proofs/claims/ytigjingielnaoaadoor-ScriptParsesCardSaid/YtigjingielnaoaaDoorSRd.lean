/- Package script: Read: its walk. -/
import Derived.Test.YtigjingielnaoaaDoorSFi
namespace Go.Proofs.YtigjingielnaoaaDoor
set_option linter.unusedVariables false
set_option linter.unusedSimpArgs false
set_option linter.unusedSectionVars false
open Go.RowKit
set_option linter.unusedVariables false
set_option linter.unusedSimpArgs false

theorem results_evb {fn : Func} {p t : Tmp} (h : fn.results = #[.cell p 44, .tmp t]) (tmps : Array Value) (w : World) (g : Nat) (c0 c1 c2 c3 c4 c5 c6 c7 c8 : Value) (hp : tmps.getD p undef = .pointer (some ⟨g, 0, none⟩)) (hB : Blk w g [c0, c1, c2, c3, c4, c5, c6, c7, c8] 44) :
    (results fn tmps).run Tryd.prog w = .ok (.tuple #[.agg #[c0, c1, c2, c3, c4, c5, c6, c7, c8], tmps.getD t undef]) w := by
  have h0 := hB.cell 0 rfl
  have h1 := hB.cell 1 rfl
  have h2 := hB.cell 2 rfl
  have h3 := hB.cell 3 rfl
  have h4 := hB.cell 4 rfl
  have h5 := hB.cell 5 rfl
  have h6 := hB.cell 6 rfl
  have h7 := hB.cell 7 rfl
  have h8 := hB.cell 8 rfl
  have hp2 : tmps[p]?.getD undef = .pointer (some ⟨g, 0, none⟩) := by rw [← hp]; simp
  simp [results, h, go_sem, hp2, h0, h1, h2, h3, h4, h5, h6, h7, h8]
theorem fillE_bd (o : Int) (w : List (List Nat)) (B : Nat) (hw : ∀ p ∈ w, p.length ≤ B) : (fillE o w).p.size ≤ B ∧ (fillE o w).q.size ≤ B ∧ (fillE o w).D.size ≤ B ∧ (fillE o w).l.length ≤ B + 1 := by
  unfold fillE
  by_cases h : w = []
  · rw [if_pos h]; simp [ByteArray.size]
  · rw [if_neg h]
    dsimp only
    have h1 : (w.headD []).length ≤ B := by
      cases w with
      | nil => exact absurd rfl h
      | cons a r => exact hw a (by simp)
    have h2 : (w.getLastD []).length ≤ B := by
      have hl : 0 < w.length := List.length_pos_iff.2 h
      rw [lastD_at w hl]
      exact hw _ (List.getElem_mem _)
    generalize w.getLastD [] = L at *
    refine ⟨by rw [size_strOf]; exact h1, by rw [size_strOf]; exact h2, ?_, ?_⟩
    · unfold nodN
      split
      · unfold NodN.pre
        split
        · simp [ByteArray.size]
        · split
          · show (strOf (bytesP ((splitC 32 L).getD 4 []))).size ≤ B
            rw [size_strOf]
            unfold bytesP
            rw [bytesN_len]
            have h4 : ((splitC 32 L).getD 4 []).length ≤ L.length := by
              rw [List.getD_eq_getElem?_getD]
              by_cases h4 : 4 < (splitC 32 L).length
              · rw [List.getElem?_eq_getElem h4]
                exact (splitC_mem 32 L _ (List.getElem_mem h4)).2
              · rw [List.getElem?_eq_none (by omega)]; simp
            omega
          · simp [NodN.no, ByteArray.size]
      · simp [NodN.no, ByteArray.size]
    · split
      · simp
      · rw [List.length_map, splitC_len]
        have := List.countP_le_length (p := fun x => decide (x = 44)) (l := L)
        omega
theorem bareE_bd {e : EvN} {B : Nat} (h : e.p.size ≤ B ∧ e.q.size ≤ B ∧ e.D.size ≤ B ∧ e.l.length ≤ B + 1) : (bareE e).p.size ≤ B ∧ (bareE e).q.size ≤ B ∧ (bareE e).D.size ≤ B ∧ (bareE e).l.length ≤ B + 1 := by
  have z : (⟨#[]⟩ : ByteArray).size ≤ B := by simp [ByteArray.size]
  have y : ([] : List Int).length ≤ B + 1 := by simp
  unfold bareE
  repeat' split
  all_goals exact ⟨by first | exact h.1 | exact z, by first | exact h.2.1 | exact z, by first | exact h.2.2.1 | exact z, by first | exact h.2.2.2 | exact y⟩
theorem readE_bd (l : List Nat) : (readE l).p.size ≤ l.length ∧ (readE l).q.size ≤ l.length ∧ (readE l).D.size ≤ l.length ∧ (readE l).l.length ≤ l.length + 1 :=
  bareE_bd (fillE_bd _ _ _ (fun p hp => (splitC_mem 9 l p (List.mem_of_mem_tail hp)).2))
theorem lineE_lt (e : EvN) : ∀ x ∈ lineE e, x < 256 := by
  unfold lineE
  split
  · rename_i h
    exact joinC_lt 9 (by decide) _ (fun p hp => (words_bd (rightE_iff.1 h).1 p hp).2)
  · simp
theorem bareE_vnil (e : EvN) (h : e.v = .slice none 0 0) : (bareE e).v = .slice none 0 0 := by
  unfold bareE
  repeat' split
  all_goals first | rfl | exact h
theorem fillE_vnil (o : Int) (w : List (List Nat)) : (fillE o w).v = .slice none 0 0 := by
  unfold fillE
  split <;> rfl
theorem bareE_row {w : World} {e : EvN} (h : Row w 3 1 e.v e.l.length (zsV e.l)) : Row w 3 1 (bareE e).v (bareE e).l.length (zsV (bareE e).l) := by
  unfold bareE
  repeat' split
  all_goals first | exact Row.nil _ _ _ | exact h
set_option maxRecDepth 100000 in
set_option maxHeartbeats 6400000 in
theorem sread_any (S : ByteArray) (w : World) (hs : S.size ≤ 100000) :
    Calls Tryd.prog 16 #[.string S] w fun r w' => (∃ v, r = .returned (.tuple #[((readR (bytesOf S)).at v).val, .bool (readOk (bytesOf S))]) ∧ Row w' 3 1 v (readR (bytesOf S)).l.length (zsV (readR (bytesOf S)).l) ∧ ∀ k, v.ownBlock = some k → w.heap.size ≤ k) ∧ Upd [] w w' := by
  have HSP := Lib.hid (fun w => splitC_row S 9 w (by omega))
  have hem := isEmpty_of S
  have HLB := Lib.hid (bytesOf_lt S)
  have HLL := Lib.hid (length_bytesOf S)
  have HEQ := Lib.hid (fun p : List Nat => fun hp => strOf_eqS p S hp)
  have HE9 : Hid (splitC (9 : UInt8).toNat (bytesOf S) = splitC 9 (bytesOf S)) := Lib.hid rfl
  rw [HE9.out] at HSP
  obtain ⟨l, hl⟩ : ∃ l, bytesOf S = l := ⟨_, rfl⟩
  rw [hl] at HSP hem HLB HLL HEQ
  rw [hl]
  clear HE9 hl
  have hll : l.length ≤ 100000 := by rw [HLL.out]; exact hs
  have HPP : Hid (∀ p ∈ splitC 9 l, p.length ≤ 100000 ∧ ∀ x ∈ p, x < 256) := Lib.hid (fun p hp => ⟨Nat.le_trans (splitC_mem 9 l p hp).2 hll, fun x hx => HLB.out x ((splitC_mem 9 l p hp).1 x hx)⟩)
  have HCN : Hid ((splitC 9 l).length ≤ 100001) := Lib.hid (by
    rw [splitC_len]
    have := List.countP_le_length (p := fun x => decide (x = 9)) (l := l)
    omega)
  have HR0 : Hid (readE l = bareE (fillE (opN ((splitC 9 l).headD [])) (splitC 9 l).tail)) := Lib.hid rfl
  have HNE := Lib.hid (splitC_ne 9 l)
  have HBB := Lib.hid (readE_bd l)
  have HTL := Lib.hid (readE_lt l)
  have HB0 := Lib.hid (Blk.new w [.int .i64 0, .string ⟨#[]⟩, .string ⟨#[]⟩, .int .i64 0, .int .i64 0, .int .u32 0, .string ⟨#[]⟩, .int .i64 0, .slice none 0 0] 44)
  have HU0 := Lib.hid ((Upd.refl [] w).alloc (.cells #[.int .i64 0, .string ⟨#[]⟩, .string ⟨#[]⟩, .int .i64 0, .int .i64 0, .int .u32 0, .string ⟨#[]⟩, .int .i64 0, .slice none 0 0] 44))
  go_enter Tryd.func16, Tryd.ntmps16
  go_wp2_with fail
  change Calls _ _ _ (w.alloc (.cells #[.int .i64 0, .string ⟨#[]⟩, .string ⟨#[]⟩, .int .i64 0, .int .i64 0, .int .u32 0, .string ⟨#[]⟩, .int .i64 0, .slice none 0 0] 44)) _
  generalize w.alloc (.cells #[.int .i64 0, .string ⟨#[]⟩, .string ⟨#[]⟩, .int .i64 0, .int .i64 0, .int .u32 0, .string ⟨#[]⟩, .int .i64 0, .slice none 0 0] 44) = w0 at *
  obtain ⟨rb, hrb⟩ : ∃ rb, w.heap.size = rb := ⟨_, rfl⟩
  have HRB := Lib.hid (show w.heap.size ≤ rb by omega)
  rw [hrb] at HB0 ⊢
  clear hrb
  refine (HSP.out _).mono ?_
  rintro e w1 ⟨⟨v, rfl, hv⟩, hu1⟩
  have HB1 := Lib.hid (HB0.out.upd hu1 (by simp))
  have HU1 := Lib.hid (HU0.out.then hu1)
  have hvt := hv.textsAt
  obtain ⟨ad, cap, rfl, hcap, hc⟩ := hvt
  clear hu1 HB0 HU0 HSP hv
  obtain ⟨ps, hps⟩ : ∃ ps, splitC 9 l = ps := ⟨_, rfl⟩
  rw [hps] at hcap hc HPP HCN HR0 HNE ⊢
  clear hps
  have hpl : 0 < ps.length := List.length_pos_iff.2 HNE.out
  obtain ⟨g, go, rfl, e0⟩ := hc 0 hpl
  have HC : Hid (∀ i, (hi : i < ps.length) → w1.cell? ⟨g, go + i, none⟩ = some (.string (strOf ps[i]))) := Lib.hid (fun i hi => by
    obtain ⟨g', o', e1, e2⟩ := hc i hi
    cases e1
    exact e2)
  rw [Nat.add_zero] at e0
  have hp0 : (strOf ps[0]).size ≤ 100000 := by rw [size_strOf]; exact (HPP.out _ (List.getElem_mem hpl)).1
  have hb0 : bytesOf (strOf ps[0]) = ps[0] := bytesOf_strOf _ (HPP.out _ (List.getElem_mem hpl)).2
  have HOP := sop_any (strOf ps[0])
  rw [hb0, ← headD_at ps hpl] at HOP
  rw [← headD_at ps hpl] at e0
  have HOP := Lib.hid HOP
  have hglt : g < w1.heap.size := textCell_lt e0
  clear hc hp0 hb0
  generalize ((opN (ps.headD []) : Nat) : Int) = OP at *
  generalize strOf (ps.headD []) = S0 at *
  obtain ⟨n, hn⟩ : ∃ n, ps.length = n + 1 := ⟨ps.length - 1, by omega⟩
  have HNN := Lib.hid hn
  rw [hn] at hcap ⊢
  clear hn hpl
  have hps1 : (0 : Int) < (n : Int) + 1 := by omega
  go_wp2_with fail
  refine (HOP.out _).mono ?_
  rintro e w2 ⟨rfl, hw2⟩
  subst hw2
  go_upto_region 3 with fail
  have HE3 := Lib.hid (Blk.new w2 [.int .i64 OP, .string ⟨#[]⟩, .string ⟨#[]⟩, .int .i64 0, .int .i64 0, .int .u32 0, .string ⟨#[]⟩, .int .i64 0, .slice none 0 0] 44)
  have HB3 := Lib.hid (HB1.out.alloc (.cells #[.int .i64 OP, .string ⟨#[]⟩, .string ⟨#[]⟩, .int .i64 0, .int .i64 0, .int .u32 0, .string ⟨#[]⟩, .int .i64 0, .slice none 0 0] 44))
  have HU3 := Lib.hid (HU1.out.alloc (.cells #[.int .i64 OP, .string ⟨#[]⟩, .string ⟨#[]⟩, .int .i64 0, .int .i64 0, .int .u32 0, .string ⟨#[]⟩, .int .i64 0, .slice none 0 0] 44))
  have hA3 : Upd [] w2 (w2.alloc (.cells #[.int .i64 OP, .string ⟨#[]⟩, .string ⟨#[]⟩, .int .i64 0, .int .i64 0, .int .u32 0, .string ⟨#[]⟩, .int .i64 0, .slice none 0 0] 44)) := (Upd.refl [] w2).alloc _
  have HT3 : Hid (∀ go' c', ((cap = 1 ∧ go' = go ∧ c' = 0) ∨ (go' = go + 1 ∧ c' = cap - 1)) → TextsAt (w2.alloc (.cells #[.int .i64 OP, .string ⟨#[]⟩, .string ⟨#[]⟩, .int .i64 0, .int .i64 0, .int .u32 0, .string ⟨#[]⟩, .int .i64 0, .slice none 0 0] 44)) (.slice (some ⟨g, go', none⟩) n c') ps.tail) := Lib.hid (fun go' c' hgc => by
    have htl : ps.tail.length = n := by rw [List.length_tail, HNN.out]; rfl
    refine ⟨some ⟨g, go', none⟩, c', by rw [htl], by omega, fun i hi => ⟨g, go', rfl, ?_⟩⟩
    have h1 := HC.out (i + 1) (by have := HNN.out; omega)
    rcases hgc with ⟨e1, e2, e3⟩ | ⟨e2, e3⟩
    · omega
    · rw [e2, show go + 1 + i = go + (i + 1) by omega, List.getElem_tail]
      exact hA3.keepS h1)
  change Code.wp _ _ _ _ (w2.alloc (.cells #[.int .i64 OP, .string ⟨#[]⟩, .string ⟨#[]⟩, .int .i64 0, .int .i64 0, .int .u32 0, .string ⟨#[]⟩, .int .i64 0, .slice none 0 0] 44))
  have HW2 : Hid (w.heap.size ≤ w2.heap.size ∧ rb < w2.heap.size) := Lib.hid ⟨HU1.out.size, HB1.out.lt⟩
  generalize w2.alloc (.cells #[.int .i64 OP, .string ⟨#[]⟩, .string ⟨#[]⟩, .int .i64 0, .int .i64 0, .int .u32 0, .string ⟨#[]⟩, .int .i64 0, .slice none 0 0] 44) = w3 at *
  clear HB1 HU1 e0 hglt hA3 HOP
  obtain ⟨eb, heb⟩ : ∃ eb, w2.heap.size = eb := ⟨_, rfl⟩
  rw [heb] at HE3 HW2 ⊢
  clear heb
  have HFI := Lib.hid (fun go' c' hgc => sfill_any eb OP ps.tail (.slice (some ⟨g, go', none⟩) n c') w3 HE3.out (HT3.out go' c' hgc) (fun p hp => HPP.out p (List.mem_of_mem_tail hp)) (by rw [List.length_tail]; have := HCN.out; omega))
  have hcp : (1 : Int) ≤ (n : Int) + 1 := by omega
  go_upto_region 3 with fail
  go_cut [4] (fun s4 wx => ∃ vl, Hid (Blk wx eb ((fillE OP ps.tail).at vl).cells 44) ∧ Hid (Row wx 3 1 vl (fillE OP ps.tail).l.length (zsV (fillE OP ps.tail).l) ∧ ∀ k, vl.ownBlock = some k → w3.heap.size ≤ k) ∧ Hid (Upd [eb] w3 wx))
  case first =>
    go_wp2_with fail
    all_goals
      refine (HFI.out _ _ (by first | exact .inr ⟨rfl, rfl⟩ | exact .inl ⟨by omega, rfl, rfl⟩)).mono ?_
      rintro e w4 ⟨rfl, vl, hE4, hI4, hU4⟩
      have HE4 := Lib.hid hE4
      have HI4 := Lib.hid hI4
      have HU4 := Lib.hid hU4
      clear hE4 hI4 hU4
      go_wp2
      go_meet
      exact ⟨vl, HE4, HI4, HU4⟩
  case rest =>
  obtain ⟨vl, HE4, HI4, HU4⟩ := hcut
  have hE4 := HE4.out
  have hI4 := HI4.out.1
  have HOW : Hid (∀ k, vl.ownBlock = some k → w.heap.size ≤ k) := Lib.hid (fun k hk => by have := HI4.out.2 k hk; have := HU3.out.size; omega)
  have hU4 := HU4.out
  clear HE4 HI4 HU4
  generalize wc = w4 at *
  have HB4 := Lib.hid (HB3.out.upd hU4 (by simp; have := HW2.out; omega))
  have HU4 := Lib.hid (HU3.out.trans hU4 (fun k hk => by simp at hk; subst hk; exact .inr HW2.out.1))
  obtain ⟨v', hbv, hor⟩ := bareE_at (fillE OP ps.tail) vl
  have HOWN : Hid (∀ k, v'.ownBlock = some k → w.heap.size ≤ k) := Lib.hid (fun k hk => by
    rcases hor with h | h
    · rw [h] at hk; exact HOW.out k hk
    · rw [h, bareE_vnil _ (fillE_vnil _ _)] at hk; simp [Value.ownBlock] at hk)
  clear hor HOW
  have hrow := bareE_row (w := w4) (e := (fillE OP ps.tail).at vl) hI4
  rw [hbv] at hrow
  obtain ⟨va, vn, vc, hvf⟩ := hrow.intsAt.form
  have hvf2 : v' = .slice va vn vc := hvf
  clear hvf
  subst hvf2
  have HBA := sbare_any ((fillE OP ps.tail).at vl)
  rw [hbv] at HBA
  have HBA := Lib.hid (fun z => HBA z hI4.intsAt.form)
  rw [← HR0.out] at HBA hrow
  have HROW := Lib.hid hrow
  have HE4 := Lib.hid hE4
  clear hU4 hI4 hrow hE4 hbv HFI HE3 HB3 HU3 HT3 HR0
  unfold EvN.val at HBA
  obtain ⟨FC, hFC⟩ : ∃ FC, ((fillE OP ps.tail).at vl) = FC := ⟨_, rfl⟩
  rw [hFC] at HE4 HBA
  clear hFC
  obtain ⟨RE, hRE⟩ : ∃ RE, readE l = RE := ⟨_, rfl⟩
  have HRE := Lib.hid hRE
  rw [hRE] at HBA HROW HBB HTL
  clear hRE
  have HLN := Lib.hid (fun z (hI : IntsAt z (.slice va vn vc) RE.l) => sline_any (RE.at (.slice va vn vc)) z hI (by have := HBB.out.2.2.2; show RE.l.length ≤ _; omega) HTL.out (by have := HBB.out.1; show RE.p.size ≤ _; omega) (by have := HBB.out.2.1; show RE.q.size ≤ _; omega) (by have := HBB.out.2.2.1; show RE.D.size ≤ _; omega))
  rw [lineE_at] at HLN
  have HOK : Hid (readOk l = decide (l ≠ [] ∧ lineE RE = l)) := Lib.hid (by unfold readOk; rw [HRE.out])
  have heq := HEQ.out (lineE RE) (lineE_lt RE)
  have HNO : Hid (readOk l = false → readR l = EvN.no) := Lib.hid (fun h => by unfold readR; rw [if_neg (by rw [h]; decide)])
  have HYE : Hid (readOk l = true → readR l = RE) := Lib.hid (fun h => by unfold readR; rw [if_pos h, HRE.out])
  clear HRE HBB HTL
  generalize lineE RE = LN at *
  obtain ⟨fo, fp, fq, fk, fm, ft, fD, fn, fv, fl⟩ := FC
  obtain ⟨ro, rp, rq, rk, rm, rt, rD, rn, rv, rl⟩ := RE
  unfold EvN.cells at HE4 HBA
  unfold EvN.val EvN.cells EvN.at at HLN
  unfold EvN.at at HBA HYE
  dsimp only at HE4 HBA HLN HROW
  have k0 := HE4.out.cell 0 rfl
  have k1 := HE4.out.cell 1 rfl
  have k2 := HE4.out.cell 2 rfl
  have k3 := HE4.out.cell 3 rfl
  have k4 := HE4.out.cell 4 rfl
  have k5 := HE4.out.cell 5 rfl
  have k6 := HE4.out.cell 6 rfl
  have k7 := HE4.out.cell 7 rfl
  have k8 := HE4.out.cell 8 rfl
  go_wp2_with fail
  refine (HBA.out _).mono ?_
  rintro e w5 ⟨rfl, hu5⟩
  have HB5 := Lib.hid (HB4.out.upd hu5 (by simp))
  have HE5 := Lib.hid (HE4.out.upd hu5 (by simp))
  have HU5 := Lib.hid (HU4.out.then hu5)
  have HROW5 := Lib.hid (HROW.out.upd hu5 (by simp))
  have hnv : (Value.slice va vn vc).ownBlock ≠ some eb := HROW5.out.ne_cellsS HE5.out (by decide)
  have hnv2 : (Value.slice va vn vc).ownBlock ≠ some rb := HROW5.out.ne_cellsS HB5.out (by decide)
  have HNV := Lib.hid hnv2
  clear hu5 HE4 HB4 HU4 HROW HBA hnv2 k0 k1 k2 k3 k4 k5 k6 k7 k8
  have c0 := HE5.out.cell 0 rfl
  have f0 := HE5.out.frz 0
  have c1 := HE5.out.cell 1 rfl
  have f1 := HE5.out.frz 1
  have c2 := HE5.out.cell 2 rfl
  have f2 := HE5.out.frz 2
  have c3 := HE5.out.cell 3 rfl
  have f3 := HE5.out.frz 3
  have c4 := HE5.out.cell 4 rfl
  have f4 := HE5.out.frz 4
  have c5 := HE5.out.cell 5 rfl
  have f5 := HE5.out.frz 5
  have c6 := HE5.out.cell 6 rfl
  have f6 := HE5.out.frz 6
  have c7 := HE5.out.cell 7 rfl
  have f7 := HE5.out.frz 7
  have c8 := HE5.out.cell 8 rfl
  have f8 := HE5.out.frz 8
  go_upto_region 5 with fail
  have HE6 : Hid (Blk ((((((((((w5).setCell ⟨eb, 0, none⟩ (.int .i64 ro)).setCell ⟨eb, 1, none⟩ (.string rp)).setCell ⟨eb, 2, none⟩ (.string rq)).setCell ⟨eb, 3, none⟩ (.int .i64 rk)).setCell ⟨eb, 4, none⟩ (.int .i64 rm)).setCell ⟨eb, 5, none⟩ (.int .u32 (rt : Nat))).setCell ⟨eb, 6, none⟩ (.string rD)).setCell ⟨eb, 7, none⟩ (.int .i64 rn)).setCell ⟨eb, 8, none⟩ (.slice va vn vc)) eb [.int .i64 ro, .string rp, .string rq, .int .i64 rk, .int .i64 rm, .int .u32 (rt : Nat), .string rD, .int .i64 rn, .slice va vn vc] 44) := Lib.hid (Blk.set (Blk.set (Blk.set (Blk.set (Blk.set (Blk.set (Blk.set (Blk.set (Blk.set HE5.out 0 (.int .i64 ro)) 1 (.string rp)) 2 (.string rq)) 3 (.int .i64 rk)) 4 (.int .i64 rm)) 5 (.int .u32 (rt : Nat))) 6 (.string rD)) 7 (.int .i64 rn)) 8 (.slice va vn vc))
  have hre : rb ≠ eb := by have := HW2.out; omega
  have HB6 : Hid (Blk ((((((((((w5).setCell ⟨eb, 0, none⟩ (.int .i64 ro)).setCell ⟨eb, 1, none⟩ (.string rp)).setCell ⟨eb, 2, none⟩ (.string rq)).setCell ⟨eb, 3, none⟩ (.int .i64 rk)).setCell ⟨eb, 4, none⟩ (.int .i64 rm)).setCell ⟨eb, 5, none⟩ (.int .u32 (rt : Nat))).setCell ⟨eb, 6, none⟩ (.string rD)).setCell ⟨eb, 7, none⟩ (.int .i64 rn)).setCell ⟨eb, 8, none⟩ (.slice va vn vc)) rb [.int .i64 0, .string ⟨#[]⟩, .string ⟨#[]⟩, .int .i64 0, .int .i64 0, .int .u32 0, .string ⟨#[]⟩, .int .i64 0, .slice none 0 0] 44) := Lib.hid (Blk.setFar (Blk.setFar (Blk.setFar (Blk.setFar (Blk.setFar (Blk.setFar (Blk.setFar (Blk.setFar (Blk.setFar HB5.out (a := ⟨eb, 0, none⟩) (.int .i64 ro) hre) (a := ⟨eb, 1, none⟩) (.string rp) hre) (a := ⟨eb, 2, none⟩) (.string rq) hre) (a := ⟨eb, 3, none⟩) (.int .i64 rk) hre) (a := ⟨eb, 4, none⟩) (.int .i64 rm) hre) (a := ⟨eb, 5, none⟩) (.int .u32 (rt : Nat)) hre) (a := ⟨eb, 6, none⟩) (.string rD) hre) (a := ⟨eb, 7, none⟩) (.int .i64 rn) hre) (a := ⟨eb, 8, none⟩) (.slice va vn vc) hre)
  have HU6 : Hid (Upd [] w ((((((((((w5).setCell ⟨eb, 0, none⟩ (.int .i64 ro)).setCell ⟨eb, 1, none⟩ (.string rp)).setCell ⟨eb, 2, none⟩ (.string rq)).setCell ⟨eb, 3, none⟩ (.int .i64 rk)).setCell ⟨eb, 4, none⟩ (.int .i64 rm)).setCell ⟨eb, 5, none⟩ (.int .u32 (rt : Nat))).setCell ⟨eb, 6, none⟩ (.string rD)).setCell ⟨eb, 7, none⟩ (.int .i64 rn)).setCell ⟨eb, 8, none⟩ (.slice va vn vc))) := Lib.hid (Upd.setCell (Upd.setCell (Upd.setCell (Upd.setCell (Upd.setCell (Upd.setCell (Upd.setCell (Upd.setCell (Upd.setCell HU5.out (p := ⟨eb, 0, none⟩) (.inr HW2.out.1) (.int .i64 ro)) (p := ⟨eb, 1, none⟩) (.inr HW2.out.1) (.string rp)) (p := ⟨eb, 2, none⟩) (.inr HW2.out.1) (.string rq)) (p := ⟨eb, 3, none⟩) (.inr HW2.out.1) (.int .i64 rk)) (p := ⟨eb, 4, none⟩) (.inr HW2.out.1) (.int .i64 rm)) (p := ⟨eb, 5, none⟩) (.inr HW2.out.1) (.int .u32 (rt : Nat))) (p := ⟨eb, 6, none⟩) (.inr HW2.out.1) (.string rD)) (p := ⟨eb, 7, none⟩) (.inr HW2.out.1) (.int .i64 rn)) (p := ⟨eb, 8, none⟩) (.inr HW2.out.1) (.slice va vn vc))
  have HUe : Upd [eb] w5 ((((((((((w5).setCell ⟨eb, 0, none⟩ (.int .i64 ro)).setCell ⟨eb, 1, none⟩ (.string rp)).setCell ⟨eb, 2, none⟩ (.string rq)).setCell ⟨eb, 3, none⟩ (.int .i64 rk)).setCell ⟨eb, 4, none⟩ (.int .i64 rm)).setCell ⟨eb, 5, none⟩ (.int .u32 (rt : Nat))).setCell ⟨eb, 6, none⟩ (.string rD)).setCell ⟨eb, 7, none⟩ (.int .i64 rn)).setCell ⟨eb, 8, none⟩ (.slice va vn vc)) := (Upd.setCell (Upd.setCell (Upd.setCell (Upd.setCell (Upd.setCell (Upd.setCell (Upd.setCell (Upd.setCell (Upd.setCell (Upd.refl [eb] w5) (p := ⟨eb, 0, none⟩) (.inl (by simp)) (.int .i64 ro)) (p := ⟨eb, 1, none⟩) (.inl (by simp)) (.string rp)) (p := ⟨eb, 2, none⟩) (.inl (by simp)) (.string rq)) (p := ⟨eb, 3, none⟩) (.inl (by simp)) (.int .i64 rk)) (p := ⟨eb, 4, none⟩) (.inl (by simp)) (.int .i64 rm)) (p := ⟨eb, 5, none⟩) (.inl (by simp)) (.int .u32 (rt : Nat))) (p := ⟨eb, 6, none⟩) (.inl (by simp)) (.string rD)) (p := ⟨eb, 7, none⟩) (.inl (by simp)) (.int .i64 rn)) (p := ⟨eb, 8, none⟩) (.inl (by simp)) (.slice va vn vc))
  have HROW6 := Lib.hid (HROW5.out.upd HUe (fun k hk hm => hnv (by simp at hm; subst hm; exact hk)))
  clear HUe HE5 HB5 HU5 HROW5 hnv hre c0 f0 c1 f1 c2 f2 c3 f3 c4 f4 c5 f5 c6 f6 c7 f7 c8 f8
  generalize (((((((((w5).setCell ⟨eb, 0, none⟩ (.int .i64 ro)).setCell ⟨eb, 1, none⟩ (.string rp)).setCell ⟨eb, 2, none⟩ (.string rq)).setCell ⟨eb, 3, none⟩ (.int .i64 rk)).setCell ⟨eb, 4, none⟩ (.int .i64 rm)).setCell ⟨eb, 5, none⟩ (.int .u32 (rt : Nat))).setCell ⟨eb, 6, none⟩ (.string rD)).setCell ⟨eb, 7, none⟩ (.int .i64 rn)).setCell ⟨eb, 8, none⟩ (.slice va vn vc) = w6 at *
  have HLN6 := Lib.hid (fun z (hz : Upd [] w6 z) => HLN.out z (HROW6.out.intsAt.upd hz))
  clear HLN
  by_cases hl0 : l = []
  · have hem2 : S.toList.isEmpty = true := by rw [hem]; exact decide_eq_true hl0
    have HOF : Hid (readOk l = false) := Lib.hid (by rw [HOK.out]; exact decide_eq_false (fun h => h.1 hl0))
    have HNR := Lib.hid (HNO.out HOF.out)
    clear hem hl0 HYE HNO HOK heq HLN6
    have o0 := HB6.out.cell 0 rfl
    have o1 := HB6.out.cell 1 rfl
    have o2 := HB6.out.cell 2 rfl
    have o3 := HB6.out.cell 3 rfl
    have o4 := HB6.out.cell 4 rfl
    have o5 := HB6.out.cell 5 rfl
    have o6 := HB6.out.cell 6 rfl
    have o7 := HB6.out.cell 7 rfl
    have o8 := HB6.out.cell 8 rfl
    have h0 := HB6.out.frz 0
    have h1 := HB6.out.frz 1
    have h2 := HB6.out.frz 2
    have h3 := HB6.out.frz 3
    have h4 := HB6.out.frz 4
    have h5 := HB6.out.frz 5
    have h6 := HB6.out.frz 6
    have h7 := HB6.out.frz 7
    have h8 := HB6.out.frz 8
    go_wp2
    refine bodyPost_ret (results_evb rfl _ _ rb _ _ _ _ _ _ _ _ _ rfl (Blk.set (Blk.set (Blk.set (Blk.set (Blk.set (Blk.set (Blk.set (Blk.set (Blk.set HB6.out 0 (.int .i64 0)) 1 (.string ⟨#[]⟩)) 2 (.string ⟨#[]⟩)) 3 (.int .i64 0)) 4 (.int .i64 0)) 5 (.int .u32 0)) 6 (.string ⟨#[]⟩)) 7 (.int .i64 0)) 8 (.slice none 0 0))) rfl ?_
    exact ⟨⟨.slice none 0 0, by rw [HNR.out, HOF.out]; rfl, by rw [HNR.out]; exact Row.nil _ _ _, by simp [Value.ownBlock]⟩, (Upd.setCell (Upd.setCell (Upd.setCell (Upd.setCell (Upd.setCell (Upd.setCell (Upd.setCell (Upd.setCell (Upd.setCell HU6.out (p := ⟨rb, 0, none⟩) (.inr HRB.out) (.int .i64 0)) (p := ⟨rb, 1, none⟩) (.inr HRB.out) (.string ⟨#[]⟩)) (p := ⟨rb, 2, none⟩) (.inr HRB.out) (.string ⟨#[]⟩)) (p := ⟨rb, 3, none⟩) (.inr HRB.out) (.int .i64 0)) (p := ⟨rb, 4, none⟩) (.inr HRB.out) (.int .i64 0)) (p := ⟨rb, 5, none⟩) (.inr HRB.out) (.int .u32 0)) (p := ⟨rb, 6, none⟩) (.inr HRB.out) (.string ⟨#[]⟩)) (p := ⟨rb, 7, none⟩) (.inr HRB.out) (.int .i64 0)) (p := ⟨rb, 8, none⟩) (.inr HRB.out) (.slice none 0 0))⟩
  · have hem2 : S.toList.isEmpty = false := by rw [hem]; exact decide_eq_false hl0
    clear hem
    by_cases hq : LN = l
    · have hq1 : ((strOf LN).toList == S.toList) = true := by rw [heq]; exact decide_eq_true hq
      have hq2 : ((strOf LN).toList != S.toList) = false := by rw [bne, hq1]; rfl
      have HOF : Hid (readOk l = true) := Lib.hid (by rw [HOK.out]; exact decide_eq_true ⟨hl0, hq⟩)
      have HNR := Lib.hid (HYE.out HOF.out)
      clear heq hq HYE HNO HOK hl0
      have c0 := HE6.out.cell 0 rfl
      have c1 := HE6.out.cell 1 rfl
      have c2 := HE6.out.cell 2 rfl
      have c3 := HE6.out.cell 3 rfl
      have c4 := HE6.out.cell 4 rfl
      have c5 := HE6.out.cell 5 rfl
      have c6 := HE6.out.cell 6 rfl
      have c7 := HE6.out.cell 7 rfl
      have c8 := HE6.out.cell 8 rfl
      go_wp2_with fail
      refine (HLN6.out _ (Upd.refl _ _)).mono ?_
      rintro e w7 ⟨rfl, hu7⟩
      have HB7 := Lib.hid (HB6.out.upd hu7 (by simp))
      have HE7 := Lib.hid (HE6.out.upd hu7 (by simp))
      have HU7 := Lib.hid (HU6.out.then hu7)
      have HROW7 := Lib.hid (HROW6.out.upd hu7 (by simp))
      clear hu7 HB6 HE6 HU6 HROW6 HLN6 c0 c1 c2 c3 c4 c5 c6 c7 c8
      have c0 := HE7.out.cell 0 rfl
      have c1 := HE7.out.cell 1 rfl
      have c2 := HE7.out.cell 2 rfl
      have c3 := HE7.out.cell 3 rfl
      have c4 := HE7.out.cell 4 rfl
      have c5 := HE7.out.cell 5 rfl
      have c6 := HE7.out.cell 6 rfl
      have c7 := HE7.out.cell 7 rfl
      have c8 := HE7.out.cell 8 rfl
      have o0 := HB7.out.cell 0 rfl
      have o1 := HB7.out.cell 1 rfl
      have o2 := HB7.out.cell 2 rfl
      have o3 := HB7.out.cell 3 rfl
      have o4 := HB7.out.cell 4 rfl
      have o5 := HB7.out.cell 5 rfl
      have o6 := HB7.out.cell 6 rfl
      have o7 := HB7.out.cell 7 rfl
      have o8 := HB7.out.cell 8 rfl
      have h0 := HB7.out.frz 0
      have h1 := HB7.out.frz 1
      have h2 := HB7.out.frz 2
      have h3 := HB7.out.frz 3
      have h4 := HB7.out.frz 4
      have h5 := HB7.out.frz 5
      have h6 := HB7.out.frz 6
      have h7 := HB7.out.frz 7
      have h8 := HB7.out.frz 8
      go_wp2
      refine bodyPost_ret (results_evb rfl _ _ rb _ _ _ _ _ _ _ _ _ rfl (Blk.set (Blk.set (Blk.set (Blk.set (Blk.set (Blk.set (Blk.set (Blk.set (Blk.set HB7.out 0 (.int .i64 ro)) 1 (.string rp)) 2 (.string rq)) 3 (.int .i64 rk)) 4 (.int .i64 rm)) 5 (.int .u32 (rt : Nat))) 6 (.string rD)) 7 (.int .i64 rn)) 8 (.slice va vn vc))) rfl ?_
      exact ⟨⟨.slice va vn vc, by rw [HNR.out, HOF.out]; rfl, by rw [HNR.out]; exact Row.upd HROW7.out (Upd.setCell (Upd.setCell (Upd.setCell (Upd.setCell (Upd.setCell (Upd.setCell (Upd.setCell (Upd.setCell (Upd.setCell (Upd.refl [rb] w7) (p := ⟨rb, 0, none⟩) (.inl (by simp)) (.int .i64 ro)) (p := ⟨rb, 1, none⟩) (.inl (by simp)) (.string rp)) (p := ⟨rb, 2, none⟩) (.inl (by simp)) (.string rq)) (p := ⟨rb, 3, none⟩) (.inl (by simp)) (.int .i64 rk)) (p := ⟨rb, 4, none⟩) (.inl (by simp)) (.int .i64 rm)) (p := ⟨rb, 5, none⟩) (.inl (by simp)) (.int .u32 (rt : Nat))) (p := ⟨rb, 6, none⟩) (.inl (by simp)) (.string rD)) (p := ⟨rb, 7, none⟩) (.inl (by simp)) (.int .i64 rn)) (p := ⟨rb, 8, none⟩) (.inl (by simp)) (.slice va vn vc)) (fun k hk hm => HNV.out (by simp at hm; subst hm; exact hk)), HOWN.out⟩, (Upd.setCell (Upd.setCell (Upd.setCell (Upd.setCell (Upd.setCell (Upd.setCell (Upd.setCell (Upd.setCell (Upd.setCell HU7.out (p := ⟨rb, 0, none⟩) (.inr HRB.out) (.int .i64 ro)) (p := ⟨rb, 1, none⟩) (.inr HRB.out) (.string rp)) (p := ⟨rb, 2, none⟩) (.inr HRB.out) (.string rq)) (p := ⟨rb, 3, none⟩) (.inr HRB.out) (.int .i64 rk)) (p := ⟨rb, 4, none⟩) (.inr HRB.out) (.int .i64 rm)) (p := ⟨rb, 5, none⟩) (.inr HRB.out) (.int .u32 (rt : Nat))) (p := ⟨rb, 6, none⟩) (.inr HRB.out) (.string rD)) (p := ⟨rb, 7, none⟩) (.inr HRB.out) (.int .i64 rn)) (p := ⟨rb, 8, none⟩) (.inr HRB.out) (.slice va vn vc))⟩
    · have hq1 : ((strOf LN).toList == S.toList) = false := by rw [heq]; exact decide_eq_false hq
      have hq2 : ((strOf LN).toList != S.toList) = true := by rw [bne, hq1]; rfl
      have HOF : Hid (readOk l = false) := Lib.hid (by rw [HOK.out]; exact decide_eq_false (fun h => hq h.2))
      have HNR := Lib.hid (HNO.out HOF.out)
      clear heq hq HYE HNO HOK hl0
      have c0 := HE6.out.cell 0 rfl
      have c1 := HE6.out.cell 1 rfl
      have c2 := HE6.out.cell 2 rfl
      have c3 := HE6.out.cell 3 rfl
      have c4 := HE6.out.cell 4 rfl
      have c5 := HE6.out.cell 5 rfl
      have c6 := HE6.out.cell 6 rfl
      have c7 := HE6.out.cell 7 rfl
      have c8 := HE6.out.cell 8 rfl
      go_wp2_with fail
      refine (HLN6.out _ (Upd.refl _ _)).mono ?_
      rintro e w7 ⟨rfl, hu7⟩
      have HB7 := Lib.hid (HB6.out.upd hu7 (by simp))
      have HE7 := Lib.hid (HE6.out.upd hu7 (by simp))
      have HU7 := Lib.hid (HU6.out.then hu7)
      have HROW7 := Lib.hid (HROW6.out.upd hu7 (by simp))
      clear hu7 HB6 HE6 HU6 HROW6 HLN6 c0 c1 c2 c3 c4 c5 c6 c7 c8
      have o0 := HB7.out.cell 0 rfl
      have o1 := HB7.out.cell 1 rfl
      have o2 := HB7.out.cell 2 rfl
      have o3 := HB7.out.cell 3 rfl
      have o4 := HB7.out.cell 4 rfl
      have o5 := HB7.out.cell 5 rfl
      have o6 := HB7.out.cell 6 rfl
      have o7 := HB7.out.cell 7 rfl
      have o8 := HB7.out.cell 8 rfl
      have h0 := HB7.out.frz 0
      have h1 := HB7.out.frz 1
      have h2 := HB7.out.frz 2
      have h3 := HB7.out.frz 3
      have h4 := HB7.out.frz 4
      have h5 := HB7.out.frz 5
      have h6 := HB7.out.frz 6
      have h7 := HB7.out.frz 7
      have h8 := HB7.out.frz 8
      go_wp2
      refine bodyPost_ret (results_evb rfl _ _ rb _ _ _ _ _ _ _ _ _ rfl (Blk.set (Blk.set (Blk.set (Blk.set (Blk.set (Blk.set (Blk.set (Blk.set (Blk.set HB7.out 0 (.int .i64 0)) 1 (.string ⟨#[]⟩)) 2 (.string ⟨#[]⟩)) 3 (.int .i64 0)) 4 (.int .i64 0)) 5 (.int .u32 0)) 6 (.string ⟨#[]⟩)) 7 (.int .i64 0)) 8 (.slice none 0 0))) rfl ?_
      exact ⟨⟨.slice none 0 0, by rw [HNR.out, HOF.out]; rfl, by rw [HNR.out]; exact Row.nil _ _ _, by simp [Value.ownBlock]⟩, (Upd.setCell (Upd.setCell (Upd.setCell (Upd.setCell (Upd.setCell (Upd.setCell (Upd.setCell (Upd.setCell (Upd.setCell HU7.out (p := ⟨rb, 0, none⟩) (.inr HRB.out) (.int .i64 0)) (p := ⟨rb, 1, none⟩) (.inr HRB.out) (.string ⟨#[]⟩)) (p := ⟨rb, 2, none⟩) (.inr HRB.out) (.string ⟨#[]⟩)) (p := ⟨rb, 3, none⟩) (.inr HRB.out) (.int .i64 0)) (p := ⟨rb, 4, none⟩) (.inr HRB.out) (.int .i64 0)) (p := ⟨rb, 5, none⟩) (.inr HRB.out) (.int .u32 0)) (p := ⟨rb, 6, none⟩) (.inr HRB.out) (.string ⟨#[]⟩)) (p := ⟨rb, 7, none⟩) (.inr HRB.out) (.int .i64 0)) (p := ⟨rb, 8, none⟩) (.inr HRB.out) (.slice none 0 0))⟩
end Go.Proofs.YtigjingielnaoaaDoor

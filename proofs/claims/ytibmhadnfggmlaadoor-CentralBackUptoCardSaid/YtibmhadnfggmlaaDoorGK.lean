/- Package central: All: its walk. -/
import Derived.Test.YtibmhadnfggmlaaDoorCRd
import Derived.Test.YtibmhadnfggmlaaDoorGA
import Derived.Test.YtibmhadnfggmlaaDoorRCRd
namespace Go.Proofs.YtibmhadnfggmlaaDoor
set_option linter.unusedVariables false
set_option linter.unusedSimpArgs false
set_option linter.unusedSectionVars false
open Go.RowKit
set_option linter.unusedVariables false

theorem infoRec : (Tryd.prog.info? 51).map (fun i => (i.zero, i.size, i.bytes)) = some (some (.agg #[.string .empty, .int .i64 0, .int .u32 0, .int .i64 0, .int .i64 0, .int .i64 0, .int .i64 0, .int .u32 0, .int .i64 0]), 9, 80) := by kernel_rfl
theorem zeroInt (w : World) : (zeroValue 3).run Tryd.prog w = .ok (.int .i64 0) w := by kernel_rfl
/-- The cells of records, one behind the other. -/
def recs (l : List RecD) : List Value := l.flatMap RecD.cells
theorem recs_append (a b : List RecD) : recs (a ++ b) = recs a ++ recs b := by simp [recs]
theorem recs_one (r : RecD) : recs [r] = r.cells := by simp [recs]
abbrev CMap (w : World) (b n : Nat) (l : List RecD) : Prop := CntMap Tryd.prog 9 3 w b n (fun p => (l.filter fun r => decide (r.p.data.toList = p)).length)
theorem cnt_pos (l : List RecD) (s : ByteArray) : 0 < (l.filter fun r => decide (r.p.data.toList = s.data.toList)).length ↔ bytesOf s ∈ l.map (fun x => bytesOf x.p) := by
  rw [List.length_pos_iff_exists_mem]
  simp only [List.mem_filter, decide_eq_true_eq, List.mem_map]
  constructor
  · rintro ⟨r, h1, h2⟩
    exact ⟨r, h1, by rw [show r.p = s from ByteArray.ext (Array.ext' h2)]⟩
  · rintro ⟨r, h1, h2⟩
    exact ⟨r, h1, by rw [← strOf_bytesOf r.p, ← strOf_bytesOf s, h2]⟩
theorem cnt_snoc (l : List RecD) (r : RecD) : (fun p : List UInt8 => if p = r.p.data.toList then (l.filter fun x => decide (x.p.data.toList = r.p.data.toList)).length + 1 else (l.filter fun x => decide (x.p.data.toList = p)).length) = fun p => ((l ++ [r]).filter fun x => decide (x.p.data.toList = p)).length := by
  funext p
  rw [List.filter_append, List.length_append]
  by_cases h : p = r.p.data.toList
  · subst h
    rw [if_pos rfl]
    simp
  · rw [if_neg h, List.filter_cons, if_neg (by simpa using fun e => h e.symm)]
    rfl
/-- What All tells, in memory. -/
def callV (w' : World) (p : List RecD × Nat) (e : Ending) : Prop := ∃ v, e = .returned (.tuple #[v, .int .i64 (p.2 : Nat)]) ∧ Row w' 51 9 v p.1.length (recs p.1)
theorem call_err {s : ByteArray} {n : Nat} (h : (crun s n).1 ≠ 0) : callP s (n : Nat) = ([], (crun s n).1) := by unfold callP; rw [if_neg (by omega)]; exact if_pos h
set_option maxRecDepth 100000 in
set_option maxHeartbeats 6400000 in
theorem cenAll_any (s : ByteArray) (many : Int) (w : World) (hs : s.size ≤ 1000000) (hm : many ≤ 100000) : Calls Tryd.prog 51 #[.string s, .int .i64 many] w fun e w' => callV w' (callP s many) e ∧ Upd [] w w' := by
  by_cases hneg : many < 0
  · have HV : Hid (callP s many = ([], 1)) := Lib.hid (if_pos hneg)
    go_enter Tryd.func51, Tryd.ntmps51
    go_wp2
    go_ret2
    exact ⟨⟨_, by rw [HV.out]; rfl, by rw [HV.out]; exact Row.nil _ _ _⟩, Upd.refl _ _⟩
  · obtain ⟨n, rfl⟩ : ∃ n : Nat, many = n := ⟨many.toNat, by omega⟩
    obtain ⟨i0, hi, hz0, hz1, hz2⟩ := info_parts infoRec
    have hmm := @run_makeMap Tryd.prog
    have hneg2 : ¬ (n : Int) < 0 := hneg
    have hU0 := (Upd.refl [] w).alloc (.map #[] 0)
    have hC0 := CntMap.new (P := Tryd.prog) (k := 9) (e := 3) w
    have HU0 := Lib.hid hU0
    have HC0 := Lib.hid hC0
    clear hneg hU0 hC0
    go_enter Tryd.func51, Tryd.ntmps51
    go_wp2
    go_loopg [4, 6, 8, 16] n (fun gg s4 s6 s8 s16 wr => ∃ i, i ≤ n ∧ gg = n - i ∧ s16 = .int .i64 (i : Nat) ∧ ∃ (l : List RecD) (a : Nat), s6 = .int .i64 (a : Nat) ∧ s8 = .bool (twiceB l) ∧ l.length = i ∧ Hid (crun s i = (0, l, a)) ∧ Hid (Row wr 51 9 s4 i (recs l)) ∧ Hid (CMap wr w.heap.size i l) ∧ Hid (∀ g, s4.ownBlock = some g → w.heap.size < g) ∧ Hid (Upd [] w wr))
    case atStart => exact ⟨0, Nat.zero_le _, rfl, rfl, [], 0, rfl, rfl, rfl, Lib.hid rfl, Lib.hid (Row.nil _ _ _), HC0, Lib.hid (fun g hg => by cases hg), HU0⟩
    case round =>
      clear hmm HU0 HC0
      obtain ⟨i, hin, rfl, rfl, l, a, rfl, rfl, hll, HE, HRow, HM, HO, HU⟩ := hrel
      have hal : a ≤ s.size := by have := crun_at s i; rw [HE.out] at this; exact this
      by_cases hc : i < n
      · have hcz : (i : Int) < (n : Int) := by omega
        have hst := crun_step s HE.out
        have hsp := crun_stop s HE.out
        have hat := creadP_at s a
        have hft := creadP_fits s a
        obtain ⟨x, hx⟩ : ∃ x, x = creadP s a := ⟨_, rfl⟩
        have HRD := Lib.hid (fun w => cenRead_any s (a : Nat) w hs)
        rw [← hx] at HRD hst hsp hat hft
        clear hx
        obtain ⟨⟨p, m, sum, le, wh, k, md, t, pos⟩, nx, why⟩ := x
        dsimp only at hst hsp hat hft
        unfold creadV RecD.v at HRD
        dsimp only at HRD
        have hpz := hft.p
        dsimp only at hpz
        clear hft
        have hmb := HM.out.lt
        obtain ⟨va, vc, rfl⟩ := HRow.out.form
        by_cases hw : why = 0
        · subst hw
          have HST := Lib.hid (hst rfl)
          have hax := hat rfl hal
          clear hst hsp hat
          have HL := Lib.hid (fun w9 (h : CMap w9 w.heap.size i l) => h.look (t := 120) Tryd.underlying9 Tryd.underlying120 Tryd.underlying3 (zeroInt _) p (by unfold maxLen; omega))
          have hcl : (l.filter fun r => decide (r.p.data.toList = p.data.toList)).length ≤ i := by have := List.length_filter_le (fun r : RecD => decide (r.p.data.toList = p.data.toList)) l; omega
          have HTW := Lib.hid (twiceB_snoc l ⟨p, m, sum, le, wh, k, md, t, pos⟩)
          have hpos := cnt_pos l p
          have HCS := Lib.hid (cnt_snoc l ⟨p, m, sum, le, wh, k, md, t, pos⟩)
          dsimp only at HTW HCS
          generalize hcd : (l.filter fun r => decide (r.p.data.toList = p.data.toList)).length = c at *
          obtain ⟨mb, hmbd⟩ : ∃ b, decide (bytesOf p ∈ l.map fun x => bytesOf x.p) = b := ⟨_, rfl⟩
          rw [hmbd] at HTW
          have hpos2 : decide (0 < (c : Int)) = mb := by rw [← hmbd, Bool.eq_iff_iff, decide_eq_true_eq, decide_eq_true_eq, ← hpos]; omega
          clear hpos hmbd
          have HCD := Lib.hid hcd
          clear hcd
          generalize twiceB l = tw at *
          have hcc : (c : Int) ≤ 100000 := by omega
          have hcc0 : (0 : Int) ≤ (c : Int) := by omega
          go_wp2_with fail
          refine (HRD.out _).mono ?_
          rintro e w1 ⟨rfl, hu1⟩
          have hQ := Blk.new w1 [.string p, .int .i64 m, .int .u32 (sum : Nat), .int .i64 le, .int .i64 wh, .int .i64 k, .int .i64 md, .int .u32 (t : Nat), .int .i64 pos] 51
          have hM1 := (HM.out.upd hu1 (by simp)).alloc (.cells #[.string p, .int .i64 m, .int .u32 (sum : Nat), .int .i64 le, .int .i64 wh, .int .i64 k, .int .i64 md, .int .u32 (t : Nat), .int .i64 pos] 51)
          have hR1 := (HRow.out.upd hu1 (by simp)).alloc (.cells #[.string p, .int .i64 m, .int .u32 (sum : Nat), .int .i64 le, .int .i64 wh, .int .i64 k, .int .i64 md, .int .u32 (t : Nat), .int .i64 pos] 51)
          have hU1 := (HU.out.then hu1).alloc (.cells #[.string p, .int .i64 m, .int .u32 (sum : Nat), .int .i64 le, .int .i64 wh, .int .i64 k, .int .i64 md, .int .u32 (t : Nat), .int .i64 pos] 51)
          have hsz1 := hu1.size
          have hpos3 : decide (0 < c) = mb := by rw [← hpos2, Bool.eq_iff_iff, decide_eq_true_eq, decide_eq_true_eq]; omega
          have HQ := Lib.hid hQ
          have HM1 := Lib.hid hM1
          have HR1 := Lib.hid hR1
          have HU1 := Lib.hid hU1
          have hl := HL.out _ HM1.out
          have c0 := HQ.out.cell 0 rfl
          have c1 := HQ.out.cell 1 rfl
          have c2 := HQ.out.cell 2 rfl
          have c3 := HQ.out.cell 3 rfl
          have c4 := HQ.out.cell 4 rfl
          have c5 := HQ.out.cell 5 rfl
          have c6 := HQ.out.cell 6 rfl
          have c7 := HQ.out.cell 7 rfl
          have c8 := HQ.out.cell 8 rfl
          have hq1 : w1.heap.size ≠ w.heap.size := by omega
          have hq2 : w.heap.size < w1.heap.size := by omega
          clear hQ hM1 hR1 hU1 HRow HM HU hsz1 hu1
          have HFIN : ∀ (v : Value) (w2 w3 : World) (vv : Value) (ww : World), CntMap Tryd.prog 9 3 w2 w.heap.size (i + 1) (fun q => if q = p.data.toList then c + 1 else (l.filter fun r => decide (r.p.data.toList = q)).length) → Upd [w.heap.size] (w1.alloc (.cells #[.string p, .int .i64 m, .int .u32 (sum : Nat), .int .i64 le, .int .i64 wh, .int .i64 k, .int .i64 md, .int .u32 (t : Nat), .int .i64 pos] 51)) w2 → Row w3 51 9 v (i + 1) (recs l ++ [.string p, .int .i64 m, .int .u32 (sum : Nat), .int .i64 le, .int .i64 wh, .int .i64 k, .int .i64 md, .int .u32 (t : Nat), .int .i64 pos]) → Upd (Value.slice va i vc).ownBlock.toList (w2.alloc (.cells #[.string p, .int .i64 m, .int .u32 (sum : Nat), .int .i64 le, .int .i64 wh, .int .i64 k, .int .i64 md, .int .u32 (t : Nat), .int .i64 pos] 51)) w3 → Later (w2.alloc (.cells #[.string p, .int .i64 m, .int .u32 (sum : Nat), .int .i64 le, .int .i64 wh, .int .i64 k, .int .i64 md, .int .u32 (t : Nat), .int .i64 pos] 51)) (.slice va i vc) v →
              Hid (CMap w3 w.heap.size (i + 1) (l ++ [(⟨p, m, sum, le, wh, k, md, t, pos⟩ : RecD)])) ∧ Hid (Row w3 51 9 v (i + 1) (recs (l ++ [(⟨p, m, sum, le, wh, k, md, t, pos⟩ : RecD)]))) ∧ Hid (∀ g, v.ownBlock = some g → w.heap.size < g) ∧ Hid (Upd [] w w3) := by
            intro v w2 w3 _ _ hM2 hu2 hR3 hu3 hl3
            rw [HCS.out] at hM2
            have hs2 := hu2.size
            rw [World.size_alloc] at hs2
            have hO2 : ∀ k, k ∈ (Value.slice va i vc).ownBlock.toList → w.heap.size < k := fun k hk => HO.out k (by simpa using hk)
            refine ⟨Lib.hid ((hM2.alloc _).upd hu3 (fun hk => by have := hO2 _ hk; omega)), Lib.hid (by rw [recs_append, recs_one]; exact hR3), Lib.hid (fun g hg => ?_), Lib.hid ?_⟩
            · rcases hl3 with e | ⟨g', e1, e2⟩
              · exact HO.out g (by rw [← e]; exact hg)
              · rw [hg] at e1; simp at e1; rw [World.size_alloc] at e2; omega
            · exact ((HU1.out.trans hu2 (fun k hk => .inr (by simp at hk; omega))).alloc _).trans hu3 (fun k hk => .inr (by have := hO2 _ hk; omega))
          have HF := Lib.hid HFIN
          clear HFIN
          rcases tw with _ | _
          all_goals
            go_wp2_with (at_mapUpdate; refine wpList_cnt rfl _ _ _ rfl HM1.out Tryd.underlying9 Tryd.underlying120 Tryd.underlying3 p (by unfold maxLen; omega) (by unfold maxLen; omega) (c + 1) (by omega) rfl rfl (by first | rfl | go_num) ?_)
            rintro w2 hM2 hu2
            have hs2 := hu2.size
            rw [World.size_alloc] at hs2
            have hQ2 := HQ.out.upd hu2 (by simpa using hq1)
            have hR2 := HR1.out.upd hu2 (fun k hk e => by have := HO.out k hk; simp at e; omega)
            have HM2 := Lib.hid hM2
            have HU2 := Lib.hid hu2
            clear c0 c1 c2 c3 c4 c5 c6 c7 c8 hl hM2 hu2
            have d0 := hQ2.cell 0 rfl
            have d1 := hQ2.cell 1 rfl
            have d2 := hQ2.cell 2 rfl
            have d3 := hQ2.cell 3 rfl
            have d4 := hQ2.cell 4 rfl
            have d5 := hQ2.cell 5 rfl
            have d6 := hQ2.cell 6 rfl
            have d7 := hQ2.cell 7 rfl
            have d8 := hQ2.cell 8 rfl
            have HQ2 := Lib.hid hQ2
            have HR2 := Lib.hid hR2
            clear hQ2 hR2 hs2
            go_wp2_with (at_builtin; refine wpList_app _ rfl _ _ 67 rfl 51 i0 _ 9 80 Tryd.underlying67 hi hz0 hz1 hz2 rfl (by omega) (.slice va i vc) i _ rfl (HR2.out.alloc _) ⟨w2.heap.size, 0, none⟩ 1 1 [.string p, .int .i64 m, .int .u32 (sum : Nat), .int .i64 le, .int .i64 wh, .int .i64 k, .int .i64 md, .int .u32 (t : Nat), .int .i64 pos] rfl rfl (World.news_of_block (cs := #[.string p, .int .i64 m, .int .u32 (sum : Nat), .int .i64 le, .int .i64 wh, .int .i64 k, .int .i64 md, .int .u32 (t : Nat), .int .i64 pos]) (t := 51) (fr := (0, 0)) (heap_alloc_new _ _)) (by simp [Value.oneCell']) (by unfold maxLen; omega) (by omega) ?_)
            rintro v3 w3 hR3 hu3 hl3
            obtain ⟨f1, f2, f3, f4⟩ := HF.out v3 w2 w3 v3 w3 HM2.out HU2.out hR3 hu3 hl3
            clear hR3 hu3 hl3 HM2 HU2 HQ2 HR2 d0 d1 d2 d3 d4 d5 d6 d7 d8 HF HR1 HU1 HM1 HQ
            go_wp2
            go_roundg (n - (i + 1))
            · refine ⟨i + 1, by omega, rfl, by first | rfl | go_num, l ++ [(⟨p, m, sum, le, wh, k, md, t, pos⟩ : RecD)], a + nx, by first | rfl | go_num, by rw [HTW.out]; rfl, by rw [List.length_append, hll]; rfl, HST, f2, f1, f3, f4⟩
            · omega
        · have HSP := Lib.hid (hsp hw n hc)
          have HV : Hid (callP s (n : Nat) = ([], why)) := Lib.hid (by rw [call_err (by rw [HSP.out]; exact hw), HSP.out])
          have tw : ((why : Int) != 0) = true := by rw [bne_iff_ne]; omega
          clear hst hsp hat
          go_wp2_with fail
          refine (HRD.out _).mono ?_
          rintro e w1 ⟨rfl, hu1⟩
          have HU1 := Lib.hid ((HU.out.then hu1).alloc (.cells #[.string p, .int .i64 m, .int .u32 (sum : Nat), .int .i64 le, .int .i64 wh, .int .i64 k, .int .i64 md, .int .u32 (t : Nat), .int .i64 pos] 51))
          clear hu1 HRow HM HU
          go_wp2
          go_ret2
          exact ⟨⟨_, by rw [HV.out]; rfl, by rw [HV.out]; exact Row.nil _ _ _⟩, HU1.out⟩
      · have hcz : ¬ (i : Int) < (n : Int) := by omega
        have hin2 : i = n := by omega
        subst hin2
        have hcr := HE.out
        by_cases h1 : a < s.size
        · have HV : Hid (callP s (i : Nat) = ([], 14)) := Lib.hid (by unfold callP; rw [if_neg (by omega), Int.toNat_natCast, hcr]; dsimp only; rw [if_neg (by omega), if_pos h1])
          have h1z : (a : Int) < (s.size : Int) := by omega
          clear hcr
          go_wp2
          go_ret2
          exact ⟨⟨_, by rw [HV.out]; rfl, by rw [HV.out]; exact Row.nil _ _ _⟩, HU.out⟩
        · have h1z : ¬ (a : Int) < (s.size : Int) := by omega
          have HV : Hid (callP s (i : Nat) = if twiceB l = true then ([], 6) else (l, 0)) := Lib.hid (by unfold callP; rw [if_neg (by omega), Int.toNat_natCast, hcr]; dsimp only; rw [if_neg (by omega), if_neg h1])
          clear hcr
          generalize twiceB l = tw at *
          rcases tw with _ | _
          · go_wp2
            go_ret2
            exact ⟨⟨_, by rw [HV.out]; rfl, by rw [HV.out]; show Row _ _ _ _ l.length _; rw [hll]; exact HRow.out⟩, HU.out⟩
          · go_wp2
            go_ret2
            exact ⟨⟨_, by rw [HV.out]; rfl, by rw [HV.out]; exact Row.nil _ _ _⟩, HU.out⟩
end Go.Proofs.YtibmhadnfggmlaaDoor
namespace Go.Proofs.YtibmhadnfggmlaaDoor
set_option linter.unusedVariables false
set_option linter.unusedSimpArgs false
set_option linter.unusedSectionVars false
open Go.RowKit
set_option linter.unusedVariables false

theorem recs_len : ∀ l : List RecD, (recs l).length = l.length * 9
  | [] => rfl
  | r :: l => by
    have e : recs (r :: l) = r.cells ++ recs l := by simp [recs]
    rw [e, List.length_append, recs_len l, List.length_cons, Nat.succ_mul]
    rw [Nat.add_comm]
    rfl
theorem recs_get (l : List RecD) (j f : Nat) (hj : j < l.length) (hf : f < 9) : (recs l)[j * 9 + f]? = (l[j].cells)[f]? := by
  have e : recs l = recs (l.take j) ++ (l[j].cells ++ recs (l.drop (j + 1))) := by
    conv => lhs; rw [← List.take_append_drop j l, recs_append, List.drop_eq_getElem_cons hj]
    congr 1
  have hk : (recs (l.take j)).length = j * 9 := by rw [recs_len, List.length_take, Nat.min_eq_left (by omega)]
  rw [e, List.getElem?_append_right (by omega), hk, Nat.add_sub_cancel_left, List.getElem?_append_left (by show f < 9; exact hf)]
theorem twiceB_take (l : List RecD) (j : Nat) (h : twiceB (l.take j) = true) : twiceB l = true := by
  induction l generalizing j with
  | nil => simp at h; exact h
  | cons r l ih =>
    cases j with
    | zero => simp [twiceB] at h
    | succ j =>
      rw [List.take_succ_cons, twiceB, Bool.or_eq_true, decide_eq_true_eq] at h
      rw [twiceB, Bool.or_eq_true, decide_eq_true_eq]
      rcases h with h | h
      · left
        obtain ⟨x, hx, e⟩ := List.mem_map.1 h
        exact List.mem_map.2 ⟨x, List.mem_of_mem_take hx, e⟩
      · exact .inr (ih j h)
theorem twiceB_step (l : List RecD) (i : Nat) (hi : i < l.length) (h : twiceB (l.take i) = false) (hn : ∀ k, (hk : k < i) → bytesOf (l[k]'(by omega)).p ≠ bytesOf l[i].p) : twiceB (l.take (i + 1)) = false := by
  rw [List.take_succ_eq_append_getElem hi, twiceB_snoc, h, Bool.false_or]
  refine decide_eq_false ?_
  intro hm
  obtain ⟨x, hx, e⟩ := List.mem_map.1 hm
  obtain ⟨k, hk, rfl⟩ := List.getElem_of_mem hx
  rw [List.length_take] at hk
  rw [List.getElem_take] at e
  exact hn k (by omega) e
theorem twiceB_hit (l : List RecD) (i k : Nat) (hi : i < l.length) (hk : k < i) (h : bytesOf (l[k]'(by omega)).p = bytesOf l[i].p) : twiceB l = true := by
  refine twiceB_take l (i + 1) ?_
  rw [List.take_succ_eq_append_getElem hi, twiceB_snoc, Bool.or_eq_true]
  refine .inr (decide_eq_true ?_)
  exact List.mem_map.2 ⟨l[k]'(by omega), List.mem_of_getElem? (i := k) (by rw [List.getElem?_take, if_pos hk, List.getElem?_eq_getElem]), h⟩
theorem toList_iff (p q : ByteArray) : p.toList = q.toList ↔ bytesOf p = bytesOf q := by
  refine ⟨fun h => ?_, fun h => ?_⟩
  · rw [ByteArray.toList_eq, ByteArray.toList_eq] at h
    rw [show p = q from ByteArray.ext (Array.ext' h)]
  · rw [← strOf_bytesOf p, ← strOf_bytesOf q, h]
set_option maxRecDepth 100000 in
set_option maxHeartbeats 6400000 in
theorem rcenAll_any (s : ByteArray) (many : Int) (w : World) (hs : s.size ≤ 1000000) (hm : many ≤ 100000) : Calls Tryd.prog 52 #[.string s, .int .i64 many] w fun e w' => callV w' (callP s many) e ∧ Upd [] w w' := by
  by_cases hneg : many < 0
  · have HV : Hid (callP s many = ([], 1)) := Lib.hid (if_pos hneg)
    go_enter Tryd.func52, Tryd.ntmps52
    go_wp2
    go_ret2
    exact ⟨⟨_, by rw [HV.out]; rfl, by rw [HV.out]; exact Row.nil _ _ _⟩, Upd.refl _ _⟩
  · obtain ⟨n, rfl⟩ : ∃ n : Nat, many = n := ⟨many.toNat, by omega⟩
    obtain ⟨i0, hi, hz0, hz1, hz2⟩ := info_parts infoRec
    have hneg2 : ¬ (n : Int) < 0 := hneg
    clear hneg
    go_enter Tryd.func52, Tryd.ntmps52
    go_wp2
    go_loopg [6, 7, 8] n (fun gg s6 s7 s8 wr => ∃ i, i ≤ n ∧ gg = n - i ∧ s8 = .int .i64 (i : Nat) ∧ ∃ (l : List RecD) (a : Nat), s7 = .int .i64 (a : Nat) ∧ l.length = i ∧ Hid (crun s i = (0, l, a)) ∧ Hid (Row wr 51 9 s6 i (recs l)) ∧ Hid (∀ g, s6.ownBlock = some g → w.heap.size ≤ g) ∧ Hid (Upd [] w wr))
    case atStart => exact ⟨0, Nat.zero_le _, rfl, rfl, [], 0, rfl, rfl, Lib.hid rfl, Lib.hid (Row.nil _ _ _), Lib.hid (fun g hg => by cases hg), Lib.hid (Upd.refl _ _)⟩
    case round =>
      obtain ⟨i, hin, rfl, rfl, l, a, rfl, hll, HE, HRow, HO, HU⟩ := hrel
      have hal : a ≤ s.size := by have := crun_at s i; rw [HE.out] at this; exact this
      by_cases hc : i < n
      · have hcz : (i : Int) < (n : Int) := by omega
        have hst := crun_step s HE.out
        have hsp := crun_stop s HE.out
        have hat := creadP_at s a
        obtain ⟨x, hx⟩ : ∃ x, x = creadP s a := ⟨_, rfl⟩
        have HRD := Lib.hid (fun w => rcenRead_any s (a : Nat) w hs)
        rw [← hx] at HRD hst hsp hat
        clear hx
        obtain ⟨⟨p, m, sum, le, wh, k, md, t, pos⟩, nx, why⟩ := x
        dsimp only at hst hsp hat
        unfold creadV RecD.v at HRD
        dsimp only at HRD
        obtain ⟨va, vc, rfl⟩ := HRow.out.form
        by_cases hw : why = 0
        · subst hw
          have HST := Lib.hid (hst rfl)
          have hax := hat rfl hal
          clear hst hsp hat
          go_wp2_with fail
          refine (HRD.out _).mono ?_
          rintro e w1 ⟨rfl, hu1⟩
          have HQ := Lib.hid (Blk.new w1 [.string p, .int .i64 m, .int .u32 (sum : Nat), .int .i64 le, .int .i64 wh, .int .i64 k, .int .i64 md, .int .u32 (t : Nat), .int .i64 pos] 51)
          have HR1 := Lib.hid ((HRow.out.upd hu1 (by simp)).alloc (.cells #[.string p, .int .i64 m, .int .u32 (sum : Nat), .int .i64 le, .int .i64 wh, .int .i64 k, .int .i64 md, .int .u32 (t : Nat), .int .i64 pos] 51))
          have HU1 := Lib.hid ((HU.out.then hu1).alloc (.cells #[.string p, .int .i64 m, .int .u32 (sum : Nat), .int .i64 le, .int .i64 wh, .int .i64 k, .int .i64 md, .int .u32 (t : Nat), .int .i64 pos] 51))
          clear HRow HU hu1
          have HF : Hid (∀ (v : Value) (w3 : World), Row w3 51 9 v (i + 1) (recs l ++ [.string p, .int .i64 m, .int .u32 (sum : Nat), .int .i64 le, .int .i64 wh, .int .i64 k, .int .i64 md, .int .u32 (t : Nat), .int .i64 pos]) → Upd (Value.slice va i vc).ownBlock.toList ((w1.alloc (.cells #[.string p, .int .i64 m, .int .u32 (sum : Nat), .int .i64 le, .int .i64 wh, .int .i64 k, .int .i64 md, .int .u32 (t : Nat), .int .i64 pos] 51)).alloc (.cells #[.string p, .int .i64 m, .int .u32 (sum : Nat), .int .i64 le, .int .i64 wh, .int .i64 k, .int .i64 md, .int .u32 (t : Nat), .int .i64 pos] 51)) w3 → Later ((w1.alloc (.cells #[.string p, .int .i64 m, .int .u32 (sum : Nat), .int .i64 le, .int .i64 wh, .int .i64 k, .int .i64 md, .int .u32 (t : Nat), .int .i64 pos] 51)).alloc (.cells #[.string p, .int .i64 m, .int .u32 (sum : Nat), .int .i64 le, .int .i64 wh, .int .i64 k, .int .i64 md, .int .u32 (t : Nat), .int .i64 pos] 51)) (.slice va i vc) v →
              Hid (Row w3 51 9 v (i + 1) (recs (l ++ [(⟨p, m, sum, le, wh, k, md, t, pos⟩ : RecD)]))) ∧ Hid (∀ g, v.ownBlock = some g → w.heap.size ≤ g) ∧ Hid (Upd [] w w3)) := Lib.hid (by
            intro v w3 hR3 hu3 hl3
            have hs1 := HU1.out.size
            have hO2 : ∀ k, k ∈ (Value.slice va i vc).ownBlock.toList → w.heap.size ≤ k := fun k hk => HO.out k (by simpa using hk)
            refine ⟨Lib.hid (by rw [recs_append, recs_one]; exact hR3), Lib.hid (fun g hg => ?_), Lib.hid ?_⟩
            · rcases hl3 with e | ⟨g', e1, e2⟩
              · exact HO.out g (by rw [← e]; exact hg)
              · rw [hg] at e1; simp at e1; rw [World.size_alloc] at e2; omega
            · exact (HU1.out.alloc _).trans hu3 (fun k hk => .inr (hO2 _ hk)))
          have d0 := HQ.out.cell 0 rfl
          have d1 := HQ.out.cell 1 rfl
          have d2 := HQ.out.cell 2 rfl
          have d3 := HQ.out.cell 3 rfl
          have d4 := HQ.out.cell 4 rfl
          have d5 := HQ.out.cell 5 rfl
          have d6 := HQ.out.cell 6 rfl
          have d7 := HQ.out.cell 7 rfl
          have d8 := HQ.out.cell 8 rfl
          go_wp2_with (at_builtin; refine wpList_app _ rfl _ _ 67 rfl 51 i0 _ 9 80 Tryd.underlying67 hi hz0 hz1 hz2 rfl (by omega) (.slice va i vc) i _ rfl (HR1.out.alloc _) ⟨w1.heap.size + 1, 0, none⟩ 1 1 [.string p, .int .i64 m, .int .u32 (sum : Nat), .int .i64 le, .int .i64 wh, .int .i64 k, .int .i64 md, .int .u32 (t : Nat), .int .i64 pos] rfl rfl (World.news_of_block (cs := #[.string p, .int .i64 m, .int .u32 (sum : Nat), .int .i64 le, .int .i64 wh, .int .i64 k, .int .i64 md, .int .u32 (t : Nat), .int .i64 pos]) (t := 51) (fr := (0, 0)) (by have := heap_alloc_new (w1.alloc (.cells #[.string p, .int .i64 m, .int .u32 (sum : Nat), .int .i64 le, .int .i64 wh, .int .i64 k, .int .i64 md, .int .u32 (t : Nat), .int .i64 pos] 51)) (.cells #[.string p, .int .i64 m, .int .u32 (sum : Nat), .int .i64 le, .int .i64 wh, .int .i64 k, .int .i64 md, .int .u32 (t : Nat), .int .i64 pos] 51); rwa [World.size_alloc] at this)) (by simp [Value.oneCell']) (by unfold maxLen; omega) (by omega) ?_)
          rintro v3 w3 hR3 hu3 hl3
          obtain ⟨f1, f2, f3⟩ := HF.out v3 w3 hR3 hu3 hl3
          clear hR3 hu3 hl3 d0 d1 d2 d3 d4 d5 d6 d7 d8 HF HR1 HU1 HQ
          go_wp2
          go_roundg (n - (i + 1))
          · refine ⟨i + 1, by omega, rfl, by first | rfl | go_num, l ++ [(⟨p, m, sum, le, wh, k, md, t, pos⟩ : RecD)], a + nx, by first | rfl | go_num, by rw [List.length_append, hll]; rfl, HST, f1, f2, f3⟩
          · omega
        · have HSP := Lib.hid (hsp hw n hc)
          have HV : Hid (callP s (n : Nat) = ([], why)) := Lib.hid (by rw [call_err (by rw [HSP.out]; exact hw), HSP.out])
          have tw : ((why : Int) != 0) = true := by rw [bne_iff_ne]; omega
          clear hst hsp hat
          go_wp2_with fail
          refine (HRD.out _).mono ?_
          rintro e w1 ⟨rfl, hu1⟩
          have HU1 := Lib.hid ((HU.out.then hu1).alloc (.cells #[.string p, .int .i64 m, .int .u32 (sum : Nat), .int .i64 le, .int .i64 wh, .int .i64 k, .int .i64 md, .int .u32 (t : Nat), .int .i64 pos] 51))
          clear hu1 HRow HU
          go_wp2
          go_ret2
          exact ⟨⟨_, by rw [HV.out]; rfl, by rw [HV.out]; exact Row.nil _ _ _⟩, HU1.out⟩
      · have hcz : ¬ (i : Int) < (n : Int) := by omega
        have hin2 : i = n := by omega
        subst hin2
        have hcr := HE.out
        by_cases h1 : a < s.size
        · have HV : Hid (callP s (i : Nat) = ([], 14)) := Lib.hid (by unfold callP; rw [if_neg (by omega), Int.toNat_natCast, hcr]; dsimp only; rw [if_neg (by omega), if_pos h1])
          have h1z : (a : Int) < (s.size : Int) := by omega
          clear hcr
          go_wp2
          go_ret2
          exact ⟨⟨_, by rw [HV.out]; rfl, by rw [HV.out]; exact Row.nil _ _ _⟩, HU.out⟩
        · have h1z : ¬ (a : Int) < (s.size : Int) := by omega
          have HV : Hid (callP s (i : Nat) = if twiceB l = true then ([], 6) else (l, 0)) := Lib.hid (by unfold callP; rw [if_neg (by omega), Int.toNat_natCast, hcr]; dsimp only; rw [if_neg (by omega), if_neg h1])
          clear hcr
          have HLL := Lib.hid hll
          obtain ⟨va, vc, rfl⟩ := HRow.out.form
          generalize wr = w4 at *
          go_wp2
          go_loopg [44] i (fun gg s44 wq => ∃ j, j ≤ i ∧ gg = i - j ∧ s44 = .int .i64 (j : Nat) ∧ Hid (twiceB (l.take j) = false) ∧ Hid (Upd [] w4 wq))
          case atStart => exact ⟨0, Nat.zero_le _, rfl, rfl, Lib.hid rfl, Lib.hid (Upd.refl _ _)⟩
          case round =>
            obtain ⟨j, hjn, rfl, rfl, HT, HUq⟩ := hrel
            by_cases hj : j < i
            · have hjz : (j : Int) < (i : Int) := by omega
              obtain ⟨gb, cap, hve, _⟩ := HRow.out.form' (by omega)
              simp only [Value.slice.injEq] at hve
              obtain ⟨rfl, _, rfl⟩ := hve
              go_wp2
              go_loopg [13] j (fun gg s13 wq2 => ∃ k, k ≤ j ∧ gg = j - k ∧ s13 = .int .i64 (k : Nat) ∧ Hid (∀ k2, (h2 : k2 < k) → ∀ x y, l[k2]? = some x → l[j]? = some y → bytesOf x.p ≠ bytesOf y.p) ∧ Hid (Upd [] w4 wq2))
              case atStart => exact ⟨0, Nat.zero_le _, rfl, rfl, Lib.hid (fun k2 h2 => by omega), HUq⟩
              case round =>
                obtain ⟨k, hkn, rfl, rfl, HK, HU2⟩ := hrel
                by_cases hk : k < j
                · have hkz : (k : Int) < (j : Int) := by omega
                  have hkiz : (k : Int) < (i : Int) := by omega
                  have hkl : k < l.length := by rw [HLL.out]; omega
                  have hjl : j < l.length := by rw [HLL.out]; omega
                  obtain ⟨x, hx⟩ : ∃ x, x = l[k] := ⟨_, rfl⟩
                  obtain ⟨y, hy⟩ : ∃ y, y = l[j] := ⟨_, rfl⟩
                  have c0 := (HRow.out.upd HU2.out (by simp)).cell (k * 9) (u := .string x.p) (by rw [show k * 9 = k * 9 + 0 from rfl, recs_get l k 0 hkl (by omega), hx]; rfl)
                  have c1 := (HRow.out.upd HU2.out (by simp)).cell (j * 9) (u := .string y.p) (by rw [show j * 9 = j * 9 + 0 from rfl, recs_get l j 0 hjl (by omega), hy]; rfl)
                  have HX := Lib.hid hx
                  have HY := Lib.hid hy
                  obtain ⟨px, hpx⟩ : ∃ px, px = x.p := ⟨_, rfl⟩
                  obtain ⟨py, hpy⟩ : ∃ py, py = y.p := ⟨_, rfl⟩
                  rw [← hpx] at c0
                  rw [← hpy] at c1
                  have HPX := Lib.hid hpx
                  have HPY := Lib.hid hpy
                  clear hx hy hpx hpy
                  by_cases he : px.toList = py.toList
                  · have HV2 : Hid (callP s (i : Nat) = ([], 6)) := Lib.hid (by
                      rw [HV.out, if_pos (twiceB_hit l j k (by rw [HLL.out]; omega) hk (by rw [← HX.out, ← HY.out, ← HPX.out, ← HPY.out]; exact (toList_iff _ _).1 he))])
                    have t1 : (px.toList == py.toList) = true := by rw [beq_iff_eq]; exact he
                    go_wp2
                    go_quiet (fail)
                    go_wp2
                    go_ret2
                    exact ⟨⟨_, by rw [HV2.out]; rfl, by rw [HV2.out]; exact Row.nil _ _ _⟩, (HU.out.then HU2.out).drewN _⟩
                  · have HNE : Hid (bytesOf x.p ≠ bytesOf y.p) := Lib.hid (by rw [← HPX.out, ← HPY.out]; exact fun e => he ((toList_iff _ _).2 e))
                    have t1 : (px.toList == py.toList) = false := by rw [beq_eq_false_iff_ne]; exact he
                    go_wp2
                    go_quiet (fail)
                    go_wp2
                    go_roundg (j - (k + 1))
                    · refine ⟨k + 1, by omega, rfl, by first | rfl | go_num, Lib.hid (fun k2 h2 x2 y2 hx2 hy2 => ?_), Lib.hid (HU2.out.drewN _)⟩
                      rcases (by omega : k2 < k ∨ k2 = k) with h3 | rfl
                      · exact HK.out k2 h3 x2 y2 hx2 hy2
                      · have e1 : x2 = x := by rw [HX.out]; have := (List.getElem?_eq_some_iff.1 hx2).2; exact this.symm
                        have e2 : y2 = y := by rw [HY.out]; have := (List.getElem?_eq_some_iff.1 hy2).2; exact this.symm
                        rw [e1, e2]; exact HNE.out
                    · omega
                · have hkz : ¬ (k : Int) < (j : Int) := by omega
                  have hkj : k = j := by omega
                  subst hkj
                  have HT2 : Hid (twiceB (l.take (k + 1)) = false) := Lib.hid (twiceB_step l k (by rw [HLL.out]; omega) HT.out (fun k2 h2 => HK.out k2 h2 _ _ (List.getElem?_eq_getElem _) (List.getElem?_eq_getElem _)))
                  go_wp2
                  go_roundg (i - (k + 1))
                  · exact ⟨k + 1, by omega, rfl, by first | rfl | go_num, HT2, HU2⟩
                  · omega
            · have hjz : ¬ (j : Int) < (i : Int) := by omega
              have hji : j = i := by omega
              subst hji
              have HV2 : Hid (callP s (j : Nat) = (l, 0)) := Lib.hid (by
                have := HT.out
                rw [List.take_of_length_le (by rw [HLL.out]; omega)] at this
                rw [HV.out, if_neg (by rw [this]; simp)])
              go_wp2
              go_ret2
              exact ⟨⟨_, by rw [HV2.out]; rfl, by rw [HV2.out]; show Row _ _ _ _ l.length _; rw [HLL.out]; exact HRow.out.upd HUq.out (by simp)⟩, HU.out.then HUq.out⟩
end Go.Proofs.YtibmhadnfggmlaaDoor
namespace Go.Proofs.YtibmhadnfggmlaaDoor
set_option linter.unusedVariables false
set_option linter.unusedSimpArgs false
set_option linter.unusedSectionVars false
open Go.RowKit
set_option linter.unusedVariables false

/-- A slice that reads as records. -/
def RecsAt (w : World) (v : Value) (l : List RecD) : Prop := ∃ a cap, v = .slice a l.length cap ∧ ∀ i, (hi : i < l.length) → ∃ b off, a = some ⟨b, off, none⟩ ∧ ∀ f u, l[i].cells[f]? = some u → w.cell? ⟨b, off + i * 9 + f, none⟩ = some u
theorem Row.recsAt {w : World} {v : Value} {l : List RecD} (h : Row w 51 9 v l.length (recs l)) : RecsAt w v l := by
  obtain ⟨a, cap, rfl⟩ := h.form
  refine ⟨a, cap, rfl, fun i hi => ?_⟩
  obtain ⟨g, cap', hv, _⟩ := h.form' (by omega)
  simp only [Value.slice.injEq] at hv
  obtain ⟨rfl, _, rfl⟩ := hv
  refine ⟨g, 0, rfl, fun f u hu => ?_⟩
  have hf : f < 9 := (List.getElem?_eq_some_iff.1 hu).1
  rw [Nat.zero_add]
  exact h.cell (i * 9 + f) (by rw [recs_get l i f hi hf]; exact hu)
set_option maxRecDepth 100000 in
set_option maxHeartbeats 3200000 in
theorem same20_any (l : List RecD) (v1 v2 : Value) (w : World) (h1 : RecsAt w v1 l) (h2 : RecsAt w v2 l) (hl : l.length ≤ 1000000) : Calls Tryd.prog 53 #[v1, v2] w fun e w' => e = .returned (.bool true) ∧ Upd [] w w' := by
  obtain ⟨a1, cap1, rfl, h1⟩ := h1
  obtain ⟨a2, cap2, rfl, h2⟩ := h2
  have H1 := Lib.hid h1
  have H2 := Lib.hid h2
  clear h1 h2
  obtain ⟨n, hn⟩ : ∃ n, l.length = n := ⟨_, rfl⟩
  rw [hn] at hl ⊢
  have HN := Lib.hid hn
  clear hn
  go_enter Tryd.func53, Tryd.ntmps53
  go_wp2
  go_loopg [13] n (fun gg s13 wr => ∃ i, i ≤ n ∧ gg = n - i ∧ s13 = .int .i64 (i : Nat) ∧ Hid (∃ k, wr = w.drewN k))
  case atStart => exact ⟨0, Nat.zero_le _, rfl, rfl, Lib.hid ⟨0, rfl⟩⟩
  case round =>
    obtain ⟨i, hin, rfl, rfl, HW⟩ := hrel
    by_cases hc : i < n
    · have hcz : (i : Int) < (n : Int) := by omega
      obtain ⟨b1, o1, rfl, g1⟩ := H1.out i (by rw [HN.out]; exact hc)
      obtain ⟨b2, o2, rfl, g2⟩ := H2.out i (by rw [HN.out]; exact hc)
      obtain ⟨r, hr⟩ : ∃ r, r = l[i]'(by rw [HN.out]; exact hc) := ⟨_, rfl⟩
      rw [← hr] at g1 g2
      clear hr
      obtain ⟨k0, rfl⟩ := HW.out
      clear HW
      obtain ⟨p, m, sum, le, wh, k, md, t, pos⟩ := r
      have c0 := g1 0 (.string p) rfl
      have c1 := g1 1 (.int .i64 m) rfl
      have c2 := g1 2 (.int .u32 (sum : Nat)) rfl
      have c3 := g1 3 (.int .i64 le) rfl
      have c4 := g1 4 (.int .i64 wh) rfl
      have c5 := g1 5 (.int .i64 k) rfl
      have c6 := g1 6 (.int .i64 md) rfl
      have c7 := g1 7 (.int .u32 (t : Nat)) rfl
      have c8 := g1 8 (.int .i64 pos) rfl
      have d0 := g2 0 (.string p) rfl
      have d1 := g2 1 (.int .i64 m) rfl
      have d2 := g2 2 (.int .u32 (sum : Nat)) rfl
      have d3 := g2 3 (.int .i64 le) rfl
      have d4 := g2 4 (.int .i64 wh) rfl
      have d5 := g2 5 (.int .i64 k) rfl
      have d6 := g2 6 (.int .i64 md) rfl
      have d7 := g2 7 (.int .u32 (t : Nat)) rfl
      have d8 := g2 8 (.int .i64 pos) rfl
      clear g1 g2
      simp only [Nat.add_zero] at c0 d0
      go_wp2
      go_quiet (fail)
      go_wp2
      go_roundg (n - (i + 1))
      · exact ⟨i + 1, by omega, rfl, by first | rfl | go_num, Lib.hid ⟨_, rfl⟩⟩
      · omega
    · have hcz : ¬ (i : Int) < (n : Int) := by omega
      go_wp2
      go_ret
      obtain ⟨k, rfl⟩ := HW.out
      exact ⟨rfl, (Upd.refl _ _).drewN _⟩
end Go.Proofs.YtibmhadnfggmlaaDoor

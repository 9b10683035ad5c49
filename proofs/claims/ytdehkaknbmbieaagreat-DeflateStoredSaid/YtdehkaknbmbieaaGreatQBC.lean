/- BlockMade: plain: what a plan's lengths are. -/
import Derived.Test.YtdehkaknbmbieaaGreatSiz
import Derived.Test.YtdehkaknbmbieaaGreatQBB
import Derived.Deep.CutBlock
import Derived.Handy
import Derived.Test.YtdehkaknbmbieaaGreatQAE
import Derived.Test.YtdehkaknbmbieaaGreatQAR
import Derived.Test.YtdehkaknbmbieaaGreatQAD
namespace Go.Proofs.YtdehkaknbmbieaaGreat
set_option linter.unusedVariables false
set_option linter.unusedSimpArgs false
set_option linter.unusedSectionVars false
set_option linter.unusedVariables false
set_option linter.unusedSimpArgs false

theorem natsI (l : List Nat) : nats (ints l) = l := by
  unfold nats ints
  rw [List.map_map]
  have : (Int.toNat ∘ fun x : Nat => (x : Int)) = id := by funext x; simp
  rw [this, List.map_id]
theorem okLensI {l : List Nat} (h1 : l.length ≤ 300) (h2 : ∀ x ∈ l, x ≤ 15) : okLens (ints l) = true := by
  refine okLens_mk (by simpa [ints] using h1) (fun k hk => ?_)
  obtain ⟨x, hx, rfl⟩ := List.mem_map.1 hk
  have := h2 x hx
  omega
theorem wsum_app (a b : List Nat) : wsum (a ++ b) = wsum a + wsum b := by unfold wsum; simp
theorem wsum_zero : ∀ (l : List Nat), (∀ x ∈ l, x = 0) → wsum l = 0
  | [], _ => rfl
  | x :: l, h => by
    have h1 := h x List.mem_cons_self
    have h2 := wsum_zero l (fun y hy => h y (List.mem_cons_of_mem _ hy))
    unfold wsum at *
    rw [List.map_cons, List.sum_cons, h2, h1]
    rfl
theorem trim_drop {l : List Nat} {least : Int} {n m : Nat} (h : TrimO l least n m) (hl : l.length = n) : ∀ x ∈ l.drop m, x = 0 := by
  intro x hx
  obtain ⟨i, hi, rfl⟩ := List.getElem_of_mem hx
  rw [List.length_drop] at hi
  have := h.zero (m + i) (by omega) (by omega)
  rw [List.getElem_drop]
  rw [List.getD_eq_getElem?_getD, List.getElem?_eq_getElem (by omega)] at this
  exact this
theorem wsum_trim {l : List Nat} {least : Int} {n m : Nat} (h : TrimO l least n m) (hl : l.length = n) : wsum (l.take m) = wsum l := by
  conv => rhs; rw [← List.take_append_drop m l, wsum_app, wsum_zero _ (trim_drop h hl)]
  rfl
theorem count_one (p : Int → Bool) (h0 : p 0 = false) (h1 : p 1 = true) : ∀ (m s : Nat), s < m → (ints ((List.replicate m 0).set s 1)).countP p = 1
  | m + 1, 0, _ => by
    rw [List.replicate_succ, List.set_cons_zero]
    show (((1 : Nat) : Int) :: ints (List.replicate m 0)).countP p = 1
    rw [List.countP_cons]
    have e : (ints (List.replicate m 0)).countP p = 0 := by
      rw [List.countP_eq_zero]
      intro a ha
      obtain ⟨x, hx, rfl⟩ := List.mem_map.1 ha
      rw [List.eq_of_mem_replicate hx]
      simpa using h0
    rw [e]
    simp [h1]
  | m + 1, s + 1, h => by
    rw [List.replicate_succ, List.set_cons_succ]
    show (((0 : Nat) : Int) :: ints ((List.replicate m 0).set s 1)).countP p = 1
    rw [List.countP_cons, count_one p h0 h1 m s (by omega)]
    simp [h0]
/-- The lengths that are left over of some numbers' ones may be. -/
theorem trim_ok {many : List Int} {n m : Nat} {u : List Nat} {least : Int} (hn : many.length = n) (h300 : n ≤ 300) (hu : IsUsed many n u) (hm : TrimO (ofL many u 15 n) least n m) :
    (u = [] → kindOf (ints ((ofL many u 15 n).take m)) = 0) ∧ (u ≠ [] → lensOk (ints ((ofL many u 15 n).take m)) = true) := by
  have hk : u.length ≤ 2 ^ 15 := by have := hu.le; omega
  have hf := of_fits hn hu 15 (by omega) (by omega) hk
  have hl := ofL_len many u 15 n
  have h15 := ofL_le hn hu (L := 15) (by omega) (by omega) hk
  have ho : okLens (ints ((ofL many u 15 n).take m)) = true := okLensI (by rw [List.length_take]; omega) (fun x hx => h15 x (List.mem_of_mem_take hx))
  have hw := wsum_trim hm hl
  constructor
  · intro h0
    unfold kindOf
    rw [if_pos ho, natsI]
    unfold kindN
    rw [if_pos (by rw [hw, hf.none h0])]
  · intro hne
    rcases Nat.lt_or_ge u.length 2 with h2 | h2
    · have h1 : u.length = 1 := by have := List.length_pos_iff.2 hne; omega
      obtain ⟨s, rfl⟩ := List.length_eq_one_iff.1 h1
      have hs : s < n := ((hu.mem s).1 (by simp)).1
      have hone := hf.one rfl
      have hsm : s < m := by
        rcases Nat.lt_or_ge s m with h | h
        · exact h
        · have := hm.zero s h hs
          simp at hone
          rw [List.getD_eq_getElem?_getD] at this
          omega
      have e : (ofL many [s] 15 n).take m = (List.replicate m 0).set s 1 := by
        have hml := hm.le
        have e0 : ofL many [s] 15 n = (List.replicate n 0).set s 1 := by simp [ofL]
        rw [e0]
        rw [List.take_set, List.take_replicate, Nat.min_eq_left hml]
      unfold lensOk usedI oneI
      rw [e, count_one _ (by simp) (by simp) m s hsm, count_one _ (by simp) (by simp) m s hsm]
      simp
    · unfold lensOk kindOf
      rw [if_pos ho, natsI]
      unfold kindN
      rw [hw, hf.two h2]
      simp
theorem stepM_256 (p : List Nat × List Nat) (t : Tok) (h : 1 ≤ p.1.getD 256 0) (hl : p.1.length = 286) (ht : okTok t) : 1 ≤ (stepM p t).1.getD 256 0 := by
  show 1 ≤ (addAt p.1 (litC t)).getD 256 0
  rw [addAt_get _ _ _ (by rw [hl]; exact litC_lt ht)]
  omega
theorem many_256 (l : List Tok) (hok : ∀ t ∈ l, okTok t) : ∀ i, i ≤ l.length → 1 ≤ (manyF (l.take i)).1.getD 256 0
  | 0, _ => by
    rw [List.take_zero, manyF_nil]
    show 1 ≤ (((List.replicate 286 0).set 256 1)).getD 256 0
    rw [List.getD_eq_getElem?_getD, List.getElem?_set_self (by rw [List.length_replicate]; omega)]
    exact Nat.le_refl _
  | i + 1, h => by
    rw [List.take_succ_eq_append_getElem (by omega), manyF_snoc]
    exact stepM_256 _ _ (many_256 l hok i (by omega)) (many_ok l i (by omega)).la (hok _ (List.getElem_mem _))
theorem count_mem : ∀ (i : Nat) (l : List StpD), i ≤ l.length → (∀ s ∈ l, s.sym < 19) → ∀ s ∈ l.take i, 1 ≤ (countS (l.take i)).getD s.sym 0
  | 0, l, _, _, s, hs => by simp at hs
  | i + 1, l, h, hsy, s, hs => by
    have hil : i < l.length := by omega
    have hl := (countS_ok l i (by omega)).1
    have h19 := hsy l[i] (List.getElem_mem hil)
    rw [List.take_succ_eq_append_getElem hil] at hs ⊢
    rw [countS_snoc]
    unfold cntS
    rw [if_pos (by omega), addAt_get _ _ _ (by omega)]
    rcases List.mem_append.1 hs with h1 | h1
    · have := count_mem i l (by omega) hsy s h1
      omega
    · rw [List.mem_singleton] at h1
      rw [h1, if_pos rfl]
      omega
theorem fixC_ge (c : List Nat) (hl : c.length = 19) (j : Nat) : c.getD j 0 ≤ (fixC c).getD j 0 := by
  have hs : ∀ i x, i < 19 → c.getD i 0 ≤ x → c.getD j 0 ≤ (c.set i x).getD j 0 := fun i x hi hx => by
    by_cases h : i = j
    · subst h
      rw [List.getD_eq_getElem?_getD (l := c.set i x), List.getElem?_set_self (by omega)]
      exact hx
    · rw [List.getD_eq_getElem?_getD (l := c.set i x), List.getElem?_set_ne h, List.getD_eq_getElem?_getD]
      exact Nat.le_refl _
  unfold fixC
  split
  · rename_i h1
    split
    · rename_i h0
      exact hs 0 1 (by omega) (by omega)
    · rename_i h0
      refine hs 1 1 (by omega) ?_
      -- only one symbol is used, and 0 is
      rcases Nat.eq_zero_or_pos (c.getD 1 0) with h2 | h2
      · omega
      · exfalso
        have m0 : 0 ∈ rawU (ints c) 19 := (rawU_mem _ _ _).2 ⟨by omega, by rw [ints_getD]; omega⟩
        have m1 : 1 ∈ rawU (ints c) 19 := (rawU_mem _ _ _).2 ⟨by omega, by rw [ints_getD]; omega⟩
        obtain ⟨s, hs⟩ := List.length_eq_one_iff.1 h1
        rw [hs] at m0 m1
        simp at m0 m1
        omega
  · exact Nat.le_refl _
theorem two_mem {l : List Nat} {a b : Nat} (ha : a ∈ l) (hb : b ∈ l) (h : a ≠ b) : 2 ≤ l.length := by
  match l, ha, hb with
  | [x], ha, hb => simp at ha hb; omega
  | x :: y :: r, _, _ => simp
theorem fixC_two (c : List Nat) (hl : c.length = 19) (j : Nat) (hj : j < 19) (h : 1 ≤ c.getD j 0) : 2 ≤ (rawU (ints (fixC c)) 19).length := by
  have hin : ∀ i, i < 19 → 1 ≤ (fixC c).getD i 0 → i ∈ rawU (ints (fixC c)) 19 := fun i hi hx => (rawU_mem _ _ _).2 ⟨hi, by rw [ints_getD]; omega⟩
  have hmj := hin j hj (Nat.le_trans h (fixC_ge c hl j))
  by_cases h1 : (rawU (ints c) 19).length = 1
  · obtain ⟨s, hs⟩ := List.length_eq_one_iff.1 h1
    have hsj : j = s := by
      have : j ∈ rawU (ints c) 19 := (rawU_mem _ _ _).2 ⟨hj, by rw [ints_getD]; omega⟩
      rw [hs] at this
      simpa using this
    by_cases h0 : c.getD 0 0 = 0
    · have e : fixC c = c.set 0 1 := by unfold fixC; rw [if_pos h1, if_pos h0]
      refine two_mem hmj (hin 0 (by omega) ?_) (fun e2 => ?_)
      · rw [e, List.getD_eq_getElem?_getD, List.getElem?_set_self (by omega)]; exact Nat.le_refl _
      · rw [e2] at h; omega
    · have e : fixC c = c.set 1 1 := by unfold fixC; rw [if_pos h1, if_neg h0]
      have hj0 : j = 0 := by
        have : 0 ∈ rawU (ints c) 19 := (rawU_mem _ _ _).2 ⟨by omega, by rw [ints_getD]; omega⟩
        rw [hs] at this
        simp at this
        omega
      refine two_mem hmj (hin 1 (by omega) ?_) (by omega)
      rw [e, List.getD_eq_getElem?_getD, List.getElem?_set_self (by omega)]; exact Nat.le_refl _
  · have e : fixC c = c := by unfold fixC; rw [if_neg h1]
    rw [e] at hmj ⊢
    have := List.length_pos_of_mem hmj
    omega
/-- A plan, as the law asks for it. -/
structure MadeL (l : List Tok) (lits backs : List Nat) (steps : List StpD) (lens : List Nat) : Prop where
  okA : lensOk (ints lits) = true
  okB : kindOf (ints backs) = 0 ∨ lensOk (ints backs) = true
  okC : kindOf (ints lens) = 1
  sy : ∀ s ∈ steps, s.sym < 19 ∧ 1 ≤ lens.getD s.sym 0 ∧ lens.getD s.sym 0 ≤ 7
  dec : okAll [] steps ∧ decS steps = lits ++ backs
  cost : ∀ u, IsUsed (ints (manyF l).1) 286 u → 2 ≤ u.length → u.length ≤ 8 → costN (ints (manyF l).1) lits lits.length ≤ costN (ints (manyF l).1) (ofL (ints (manyF l).1) u 7 286) 286
theorem cost_up {many : List Int} {n : Nat} {u : List Nat} (hu : IsUsed many n u) : ∀ (d L : Nat), u.length ≤ 2 ^ L → costN many (ofL many u (L + d) n) n ≤ costN many (ofL many u L n) n
  | 0, L, _ => Nat.le_refl _
  | d + 1, L, hk => by
    have h1 := cost_up hu d L hk
    have h2 := cost_more hu (L + d) (Nat.le_trans hk (Nat.pow_le_pow_right (by omega) (by omega)))
    exact Nat.le_trans h2 h1
theorem cost_trim (many : List Int) (l : List Nat) {least : Int} {n m : Nat} (h : TrimO l least n m) (hl : l.length = n) : costN many (l.take m) m = costN many l n := by
  have key : ∀ k, m + k ≤ n → costN many l (m + k) = costN many l m := by
    intro k
    induction k with
    | zero => intro _; rfl
    | succ k ih =>
      intro hk
      have hz := h.zero (m + k) (by omega) (by omega)
      have := ih (by omega)
      unfold costN at *
      rw [← Nat.add_assoc, sumN_succ, this, hz]
      simp
  have e : costN many (l.take m) m = costN many l m := by
    unfold costN
    refine sumN_congr (fun i hi => ?_)
    have e2 : (l.take m).getD i 0 = l.getD i 0 := by rw [List.getD_eq_getElem?_getD, List.getElem?_take, if_pos hi, List.getD_eq_getElem?_getD]
    rw [e2]
  have hm := h.le
  have := key (n - m) (by omega)
  rw [show m + (n - m) = n by omega] at this
  rw [e, this]
theorem MadeO.law {l : List Tok} {lits backs lens : List Nat} {steps : List StpD} (h : MadeO l lits backs steps lens) (hl : (manyF l).1.length = 286 ∧ (manyF l).2.length = 30) (hok : ∀ t ∈ l, okTok t) : MadeL l lits backs steps lens := by
  obtain ⟨m1, m1', m2, m2', x15, y15, hsy, hl7, hl19, hsl⟩ := h.bd hl
  have hs19 : (countS steps).length = 19 := by have := (countS_ok steps steps.length (Nat.le_refl _)).1; rwa [List.take_length] at this
  have i1 : (ints (manyF l).1).length = 286 := by simp [ints, hl.1]
  have i2 : (ints (manyF l).2).length = 30 := by simp [ints, hl.2]
  have i3 : (ints (fixC (countS steps))).length = 19 := by simp [ints, fixC_len, hs19]
  obtain ⟨u1, m1x, hu1, ht1, e1⟩ := h.a
  obtain ⟨u2, m2x, hu2, ht2, e2⟩ := h.b
  obtain ⟨u3, hu3, e3⟩ := h.c
  have h256 : 1 ≤ (manyF l).1.getD 256 0 := by have := many_256 l hok l.length (Nat.le_refl _); rwa [List.take_length] at this
  have hne1 : u1 ≠ [] := fun e => by
    have := (hu1.mem 256).2 ⟨by omega, by rw [ints_getD]; omega⟩
    rw [e] at this
    simp at this
  have hcm : ∀ s ∈ steps, 1 ≤ (countS steps).getD s.sym 0 := fun s hs => by
    have := count_mem steps.length steps (Nat.le_refl _) (fun s hs => (hsy s hs).1) s (by rw [List.take_length]; exact hs)
    rwa [List.take_length] at this
  have hdec := ofS_dec (lits.length + backs.length) (ints (lits ++ backs)) (-1) [] (by simp [ints]) (fun x hx => by
    obtain ⟨y, hy, rfl⟩ := List.mem_map.1 hx
    rcases List.mem_append.1 hy with hy | hy
    · have := x15 y hy; omega
    · have := y15 y hy; omega) (by simp [ints]; omega) (.inl ⟨rfl, rfl⟩)
  rw [← h.s] at hdec
  have hd2 : decS steps = lits ++ backs := by
    show steps.foldl dec1 [] = _
    rw [hdec.2]
    exact natsI _
  have hf3 := of_fits i3 hu3 7 (by omega) (by omega) (by have := hu3.le; omega)
  have hsne : ∃ s, s ∈ steps := by
    cases hst : steps with
    | nil =>
      exfalso
      rw [hst] at hd2
      have := congrArg List.length hd2
      simp [decS] at this
      omega
    | cons s r => exact ⟨s, List.mem_cons_self⟩
  obtain ⟨s0, hs0⟩ := hsne
  have h2 : 2 ≤ u3.length := by rw [used_len hu3]; exact fixC_two _ hs19 s0.sym (hsy s0 hs0).1 (hcm s0 hs0)
  refine ⟨?_, ?_, ?_, ?_, ⟨hdec.1, hd2⟩, ?_⟩
  · rw [e1]; exact (trim_ok i1 (by omega) hu1 ht1).2 hne1
  · rw [e2]
    have := trim_ok i2 (by omega) hu2 ht2
    by_cases hu : u2 = []
    · exact .inl (this.1 hu)
    · exact .inr (this.2 hu)
  · have ho : okLens (ints lens) = true := okLensI (by omega) (fun x hx => by have := hl7 x hx; omega)
    unfold kindOf
    rw [if_pos ho, natsI]
    unfold kindN
    rw [e3, hf3.two h2]
    simp
  · intro s hs
    obtain ⟨h1, _⟩ := hsy s hs
    refine ⟨h1, ?_, getD_le hl7 _⟩
    have := (hf3.iff s.sym h1).2 (by rw [ints_getD]; have := fixC_ge _ hs19 s.sym; have := hcm s hs; omega)
    rw [e3]
    exact this
  · intro u hu hu2' hu8
    obtain rfl := hu.uniq hu1
    have hl1 := ofL_len (ints (manyF l).1) u 15 286
    have hlm : lits.length = m1x := by rw [e1, List.length_take, hl1]; exact Nat.min_eq_left ht1.le
    rw [hlm, e1, cost_trim _ _ ht1 hl1]
    exact cost_up hu 8 7 (by omega)
end Go.Proofs.YtdehkaknbmbieaaGreat
namespace Go.Proofs.YtdehkaknbmbieaaGreat
set_option linter.unusedVariables false
set_option linter.unusedSimpArgs false
set_option linter.unusedSectionVars false
open Go.RowKit

theorem infoCounts : (Tryz.prog.info? 160).map (·.size) = some 16 := by kernel_rfl

def CountPost (w : World) (l : List Int) (e : Ending) (w' : World) : Prop :=
  Upd [] w w' ∧ ((okLens l = true ∧ e = .returned (.tuple #[.agg (i64s (cl (nats l))).toArray, .bool true])) ∨
    (okLens l = false ∧ ∃ c, c.length = 16 ∧ e = .returned (.tuple #[.agg (i64s c).toArray, .bool false])))

def CountRel (w : World) (l : List Int) (i : Nat) (wr : World) : Prop := okLens (l.take i) = true ∧ Blk wr w.heap.size (i64s (cl0 (nats (l.take i)))) 160 ∧ Upd [] w wr

theorem count_res {w : World} {fn : Func} {p u : Tmp} {b : Nat} {cs : List Value} {tmps : Array Value} (h : fn.results = #[.cell p 160, .tmp u]) (hp : tmps.getD p undef = .pointer (some ⟨b, 0, none⟩)) {t : TypeId} (hB : Blk w b cs t) (hl : cs.length = 16) :
    (results fn tmps).run Tryz.prog w = .ok (.tuple #[.agg cs.toArray, tmps.getD u undef]) w := by
  have hp' : tmps[p]?.getD undef = .pointer (some ⟨b, 0, none⟩) := by simpa using hp
  have hr := run_loadVar_row (P := Tryz.prog) w b t 160 cs.toArray (0, 0) _ hB Tryz.underlying160 rfl (by rw [infoCounts]; simp [hl])
  simp [results, h, hp', asAddr, hr]

set_option maxRecDepth 100000 in
set_option maxHeartbeats 3200000 in
theorem qcount_any (a : Option Addr) (len cap : Nat) (l : List Int) (w : World) (hlen : len ≤ 9223372036854775807) (hI : IntsIn w a len l) :
    Calls Tryz.prog 119 #[.slice a len cap] w (CountPost w l) := by
  have hll := hI.len
  have HI := Lib.hid hI
  clear hI
  subst hll
  by_cases hlong : 300 < l.length
  · have hnz : ((l.length : Nat) : Int) > 300 := by omega
    have hok := okLens_long hlong
    have HOK := Lib.hid hok
    clear hok hlong
    go_enter Tryz.func119, Tryz.ntmps119
    have hB := Blk.new w (i64s (List.replicate 16 0)) 160
    go_wp2_with (first
      | (refine wpList_loadBlk rfl 160 _ rfl w.heap.size rfl 160 (i64s (List.replicate 16 0)) hB _ Tryz.underlying160 rfl (by kernel_rfl) ?_)
      | (refine wpList_storeBlk rfl 160 _ _ rfl w.heap.size rfl (i64s (List.replicate 16 0)) rfl 160 _ hB (by kernel_rfl) rfl (i64s_one _) ?_; intro w2 hB2 hU2))
    exact bodyPost_ret (count_res rfl rfl hB2 rfl) rfl ⟨((Upd.refl _ _).alloc _).trans hU2 (fun k hk => by simp at hk; right; omega), .inr ⟨HOK.out, _, rfl, rfl⟩⟩
  · have hnz : ¬ ((l.length : Nat) : Int) > 300 := by omega
    go_enter Tryz.func119, Tryz.ntmps119
    go_wp2
    go_loopg [12] l.length (fun g s12 wr => ∃ i, i ≤ l.length ∧ g = l.length - i ∧ s12 = .int .i64 (i : Nat) ∧ CountRel w l i wr)
    case atStart => exact ⟨0, by omega, rfl, rfl, okLens_mk (by simp) (by simp), Blk.new w (i64s (List.replicate 16 0)) 160, (Upd.refl _ _).alloc _⟩
    case round =>
      obtain ⟨i, hin, rfl, rfl, hok, hB, hU⟩ := hrel
      by_cases hc : i < l.length
      · have hcz : (i : Int) < (l.length : Int) := by omega
        obtain ⟨b, off, rfl, c0, r1, r2⟩ := (HI.out.pure hU).cell i hc
        by_cases hb : 0 ≤ l[i] ∧ l[i] ≤ 15
        · obtain ⟨hb0, hb15⟩ := hb
          have hok2 := Lib.hid (okLens_take hc hok (by omega) hb0 hb15)
          obtain ⟨k, hk⟩ : ∃ k : Nat, l[i] = (k : Int) := ⟨l[i].toNat, by omega⟩
          have hn2 := Lib.hid (show nats (l.take (i + 1)) = nats (l.take i) ++ [k] by rw [take_snoc' l i hc]; simp [nats, hk])
          rw [hk] at c0 hb0 hb15
          have hcl := Lib.hid (cl0_snoc (nats (l.take i)) k (by omega))
          have hcc : (nats (l.take i)).count k ≤ 300 := Nat.le_trans List.count_le_length (by rw [length_nats, List.length_take]; omega)
          have hk16 : k < 16 := by omega
          have d0 := hB.cell k (i64s_get _ _ _ (cl0_get (nats (l.take i)) k hk16))
          have f0 := hB.frz k
          clear hk r1 r2
          generalize (nats (l.take i)).count k = C at *
          go_wp2
          go_roundg (l.length - (i + 1))
          case measure => omega
          case rel =>
            refine ⟨i + 1, by omega, rfl, by go_num, hok2.out, ?_, hU.setCell (.inr (Nat.le_refl _)) _⟩
            rw [hn2.out, hcl.out, i64s_set]
            exact hB.set k _
        · have hokF := Lib.hid (okLens_not hc hb)
          have hlen0 : (i64s (cl0 (nats (l.take i)))).length = 16 := by rw [length_i64s, length_cl0]
          have hlc := length_cl0 (nats (l.take i))
          generalize cl0 (nats (l.take i)) = c at *
          by_cases hb0 : l[i] < 0
          · generalize l[i] = x at *
            go_wp2_with (first
              | (refine wpList_loadBlk rfl 160 _ rfl w.heap.size rfl 160 _ hB _ Tryz.underlying160 rfl (by rw [hlen0]; kernel_rfl) ?_)
              | (refine wpList_storeBlk rfl 160 _ _ rfl w.heap.size rfl _ rfl 160 _ hB (by rw [hlen0]; kernel_rfl) rfl (i64s_one _) ?_; intro w2 hB2 hU2))
            exact bodyPost_ret (count_res rfl rfl hB2 hlen0) rfl ⟨hU.trans hU2 (fun k hk => by simp at hk; right; omega), .inr ⟨hokF.out, _, hlc, rfl⟩⟩
          · have hb15 : 15 < l[i] := by omega
            generalize l[i] = x at *
            clear hb
            go_wp2_with (first
              | (refine wpList_loadBlk rfl 160 _ rfl w.heap.size rfl 160 _ hB _ Tryz.underlying160 rfl (by rw [hlen0]; kernel_rfl) ?_)
              | (refine wpList_storeBlk rfl 160 _ _ rfl w.heap.size rfl _ rfl 160 _ hB (by rw [hlen0]; kernel_rfl) rfl (i64s_one _) ?_; intro w2 hB2 hU2))
            exact bodyPost_ret (count_res rfl rfl hB2 hlen0) rfl ⟨hU.trans hU2 (fun k hk => by simp at hk; right; omega), .inr ⟨hokF.out, _, hlc, rfl⟩⟩
      · have hcz : ¬ (i : Int) < (l.length : Int) := by omega
        have hi : i = l.length := by omega
        rw [hi, List.take_length] at hok hB
        have hcl := Lib.hid (cl0_cl (nats l))
        have d0 := hB.cell 0 (i64s_get _ _ _ (cl0_get (nats l) 0 (by omega)))
        have f0 := hB.frz 0
        have hB1 := hB.set 0 (.int .i64 0)
        have hB1' : Blk (wr.setCell ⟨w.heap.size, 0, none⟩ (.int .i64 0)) w.heap.size (i64s (cl (nats l))) 160 := by
          rw [← hcl.out, i64s_set]; exact hB1
        clear hB1 hi
        have hlen0 : (i64s (cl (nats l))).length = 16 := by rw [length_i64s, length_cl]
        generalize hgc : cl (nats l) = c at *
        have HGC := Lib.hid hgc
        clear hgc
        go_wp2_with (first
          | (refine wpList_loadBlk rfl 160 _ rfl w.heap.size rfl 160 _ hB1' _ Tryz.underlying160 rfl (by rw [hlen0]; kernel_rfl) ?_)
          | (refine wpList_storeBlk rfl 160 _ _ rfl w.heap.size rfl _ rfl 160 _ hB1' (by rw [hlen0]; kernel_rfl) rfl (i64s_one _) ?_; intro w2 hB2 hU2))
        exact bodyPost_ret (count_res rfl rfl hB2 hlen0) rfl ⟨(hU.setCell (.inr (Nat.le_refl _)) _).trans hU2 (fun k hk => by simp at hk; right; omega), .inl ⟨hok, by rw [HGC.out]; rfl⟩⟩

theorem kind_step (p c k : Nat) (hp : p ≤ 200000000) (hc : c ≤ 300) : wrap64 ((p : Int) + wrap64 ((c : Int) * 2 ^ (15 - k))) = ((p + c * 2 ^ (15 - k) : Nat) : Int) := by
  have h1 : 2 ^ (15 - k) ≤ 2 ^ 15 := Nat.pow_le_pow_right (by omega) (by omega)
  have h2 : c * 2 ^ (15 - k) ≤ 300 * 2 ^ 15 := Nat.mul_le_mul hc h1
  have e : (2 : Int) ^ (15 - k) = ((2 ^ (15 - k) : Nat) : Int) := by simp
  have h3 : wrap64 ((c * 2 ^ (15 - k) : Nat) : Int) = ((c * 2 ^ (15 - k) : Nat) : Int) := IntWalk.wrap64_in _ (by omega)
  rw [e, ← Int.natCast_mul, h3, ← Int.natCast_add]
  exact IntWalk.wrap64_in _ (by omega)
set_option maxRecDepth 100000 in
set_option maxHeartbeats 3200000 in
theorem kind_any (a : Option Addr) (len cap : Nat) (l : List Int) (w : World) (hlen : len ≤ 9223372036854775807) (hI : IntsIn w a len l) :
    Calls Tryz.prog 114 #[.slice a len cap] w fun e w' => e = .returned (.int .i64 (kindOf l : Nat)) ∧ Upd [] w w' := by
  have HC := Lib.hid (qcount_any a len cap l w hlen hI)
  clear hI
  go_enter Tryz.func114, Tryz.ntmps114
  go_wp2_with fail
  refine HC.out.mono ?_
  rintro e w1 ⟨hU1, ⟨hok, rfl⟩ | ⟨hok, c, hlc, rfl⟩⟩
  · have HOK := Lib.hid hok
    clear hok
    have hlen0 : (i64s (cl (nats l))).length = 16 := by rw [length_i64s, length_cl]
    have hidx : ∀ i : Nat, i < 16 → ∀ W, (Instr.index 160 (.agg (i64s (cl (nats l))).toArray) (.int .i64 (i : Int))).run Tryz.prog W = .ok (.int .i64 (cnt (nats l) i : Nat)) W := fun i hi W => by
      rw [run_indexAgg (P := Tryz.prog) 160 3 16 Tryz.underlying160 .i64 Tryz.underlying3 (by kernel_rfl) (i64s (cl (nats l))) hlen0 .i64 i hi]
      rw [List.getD, i64s_get _ _ _ (cl_get (nats l) i hi)]; rfl
    have HX := Lib.hid hidx
    clear hidx
    have hpl := Lib.hid (fun k hk => psum_le (nats l) k hk (by rw [length_nats]; exact (okLens_spec HOK.out).1))
    have hcl := Lib.hid (fun k => Nat.le_trans (cnt_le (nats l) k) (by rw [length_nats]; exact (okLens_spec HOK.out).1))
    have hkind := Lib.hid (show kindOf l = kindN (nats l) by unfold kindOf; rw [if_pos HOK.out])
    have hps := Lib.hid (psum_wsum (nats l) (fun x hx => by
      simp only [nats, List.mem_map] at hx
      obtain ⟨y, hy, rfl⟩ := hx
      have := (okLens_spec HOK.out).2 y hy; omega))
    generalize nats l = n at *
    go_wp2_with (first
      | (refine wpList_storeBlk rfl 160 _ _ rfl w1.heap.size rfl _ rfl 160 _ (Blk.new w1 (i64s (List.replicate 16 0)) 160) (by kernel_rfl) hlen0 (i64s_one _) ?_; intro w2 hB2 hU2)
      | (refine wpList_loadBlk rfl 160 _ rfl w1.heap.size rfl 160 _ hB2 _ Tryz.underlying160 rfl (by rw [hlen0]; kernel_rfl) ?_))
    have hU3 : Upd [] w w2 := (hU1.alloc _).trans hU2 (fun k hk => by simp at hk; right; have := hU1.size; omega)
    go_loopg [5, 16] 16 (fun g s5 s16 wr => ∃ k, k ≤ 16 ∧ g = 16 - k ∧ s16 = .int .i64 (k : Nat) ∧ s5 = .int .i64 (psum n k : Nat) ∧ w2 = wr)
    case atStart => exact ⟨0, by omega, rfl, rfl, rfl, rfl⟩
    case round =>
      obtain ⟨k, hk, rfl, rfl, rfl, rfl⟩ := hrel
      have hle := hpl.out k hk
      by_cases hc : k < 16
      · have hcz : (k : Int) < 16 := by omega
        have hx := HX.out k hc
        have hcle := hcl.out k
        have hsn := Lib.hid (show psum n (k + 1) = psum n k + cnt n k * 2 ^ (15 - k) by rfl)
        generalize psum n k = p at *
        generalize cnt n k = c at *
        go_wp2
        go_roundg (16 - (k + 1))
        case measure => omega
        case rel =>
          refine ⟨k + 1, by omega, rfl, by go_num, ?_, rfl⟩
          rw [hsn.out, kind_step _ _ _ (by omega) hcle]
      · have hk16 : k = 16 := by omega
        have hcz : ¬ (k : Int) < 16 := by omega
        rw [hk16, hps.out] at hle ⊢
        have hkc := kindN_cases n
        clear hk16
        generalize wsum n = s at *
        rcases hkc with ⟨h0, hkn⟩ | ⟨h0, h1, hkn⟩ | ⟨h0, hkn⟩ | ⟨h0, hkn⟩
        · have HK := Lib.hid hkn
          have hs : (s : Int) = 0 := by omega
          clear hkn
          go_wp2
          go_returns
          exact ⟨by rw [hkind.out, HK.out]; rfl, hU3⟩
        · have HK := Lib.hid hkn
          have hs1 : ((s : Int) == 0) = false := by simp; omega
          have hs2 : decide ((s : Int) < 32768) = true := by simp; omega
          clear hkn h0 h1 hle
          go_wp2
          go_returns
          exact ⟨by rw [hkind.out, HK.out]; rfl, hU3⟩
        · have HK := Lib.hid hkn
          have hs : (s : Int) = 32768 := by omega
          clear hkn
          go_wp2
          go_returns
          exact ⟨by rw [hkind.out, HK.out]; rfl, hU3⟩
        · have HK := Lib.hid hkn
          have hs1 : ((s : Int) == 0) = false := by simp; omega
          have hs2 : decide ((s : Int) < 32768) = false := by simp; omega
          have hs3 : ((s : Int) == 32768) = false := by simp; omega
          clear hkn h0 hle
          go_wp2
          go_returns
          exact ⟨by rw [hkind.out, HK.out]; rfl, hU3⟩
  · have hlen0 : (i64s c).length = 16 := by rw [length_i64s, hlc]
    have hkind := Lib.hid (show kindOf l = 3 by unfold kindOf; rw [if_neg (by rw [hok]; decide)])
    clear hok
    go_wp2_with (first
      | (refine wpList_storeBlk rfl 160 _ _ rfl w1.heap.size rfl _ rfl 160 _ (Blk.new w1 (i64s (List.replicate 16 0)) 160) (by kernel_rfl) hlen0 (i64s_one _) ?_; intro w2 hB2 hU2))
    go_returns
    exact ⟨by rw [hkind.out]; rfl, (hU1.alloc _).trans hU2 (fun k hk => by simp at hk; right; have := hU1.size; omega)⟩
end Go.Proofs.YtdehkaknbmbieaaGreat
namespace Go.Proofs.YtdehkaknbmbieaaGreat
set_option linter.unusedVariables false
set_option linter.unusedSimpArgs false
set_option linter.unusedSectionVars false
open Go.RowKit

theorem infoU32 : (Tryz.prog.info? 53).map (fun i => (i.zero, i.size, i.bytes)) = some (some (.int .u32 0), 1, 4) := by kernel_rfl

end Go.Proofs.YtdehkaknbmbieaaGreat

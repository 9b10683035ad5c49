/- Package runs: Of: its walk. -/
import Derived.Test.YtdehkaknbmbieaaGreatRunB
import Derived.Test.YtdehkaknbmbieaaGreatQAM
import Derived.Test.YtdehkaknbmbieaaGreatQAX
namespace Go.Proofs.YtdehkaknbmbieaaGreat
set_option linter.unusedVariables false
set_option linter.unusedSimpArgs false
set_option linter.unusedSectionVars false
open Go.RowKit
set_option linter.unusedVariables false
set_option linter.unusedSimpArgs false

theorem infoStepE : (Tryz.prog.info? 101).map (fun i => (i.zero, i.size, i.bytes)) = some (some (.agg #[.int .i64 0, .int .i64 0, .int .i64 0]), 3, 24) := by kernel_rfl
theorem nextS_len (r : List Int) (a : Int) (h : r ≠ []) : 1 ≤ (nextS r a).2 ∧ (nextS r a).2 ≤ r.length := by
  have h1 := runC_le 0 r
  have h2 := runC_le a r
  have h3 : 1 ≤ r.length := by cases r with | nil => exact absurd rfl h | cons => simp
  unfold nextS
  split
  · unfold stepOf runM; dsimp only; rw [if_neg (by omega), if_neg (by omega)]; omega
  · split
    · unfold stepOf runM; dsimp only; rw [if_neg (by omega), if_pos rfl]; omega
    · split
      · unfold stepOf runM; dsimp only; rw [if_pos rfl]; omega
      · dsimp only; omega
/-- The steps of a row. -/
def ofS : Nat → List Int → Int → List StpD
  | 0, _, _ => []
  | f + 1, r, a => if r = [] then [] else (nextS r a).1 :: ofS f (r.drop (nextS r a).2) (r.getD ((nextS r a).2 - 1) 0)
theorem ofS_succ (f : Nat) (r : List Int) (a : Int) : ofS (f + 1) r a = if r = [] then [] else (nextS r a).1 :: ofS f (r.drop (nextS r a).2) (r.getD ((nextS r a).2 - 1) 0) := by rw [ofS]
theorem ofS_nil (f : Nat) (a : Int) : ofS f [] a = [] := by cases f with | zero => rfl | succ f => rw [ofS_succ, if_pos rfl]
theorem ofS_more : ∀ (f : Nat) (r : List Int) (a : Int), r.length ≤ f → ofS f r a = ofS r.length r a
  | 0, r, a, h => by rw [List.eq_nil_of_length_eq_zero (show r.length = 0 by omega)]; rfl
  | f + 1, r, a, h => by
    by_cases hr : r = []
    · rw [hr, ofS_nil, ofS_nil]
    · obtain ⟨h1, h2⟩ := nextS_len r a hr
      obtain ⟨m, hm⟩ : ∃ m, r.length = m + 1 := ⟨r.length - 1, by omega⟩
      rw [hm, ofS_succ, ofS_succ, if_neg hr, if_neg hr]
      have hd : (r.drop (nextS r a).2).length ≤ m := by rw [List.length_drop]; omega
      rw [ofS_more f _ _ (by omega), ofS_more m _ _ hd]
  termination_by f => f
theorem IntsIn.drop {w : World} {b off n : Nat} {l : List Int} (h : IntsIn w (some ⟨b, off, none⟩) n l) (k : Nat) (hk : k ≤ n) : IntsIn w (some ⟨b, off + k, none⟩) (n - k) (l.drop k) :=
  ⟨by rw [List.length_drop, h.len], fun i hi => by
    rw [List.length_drop, h.len] at hi
    obtain ⟨b', off', e, c, r⟩ := h.cell (k + i) (by rw [h.len]; omega)
    cases e
    exact ⟨b, off + k, rfl, by rw [List.getElem_drop, show off + k + i = off + (k + i) by omega]; exact c, by rw [List.getElem_drop]; exact r⟩⟩
def stepsC (l : List StpD) : List Value := l.flatMap StpD.cs
theorem stp_one (s : StpD) : ∀ v ∈ s.cs, v.oneCell' = true := by
  intro v hv
  simp [StpD.cs] at hv
  rcases hv with rfl | rfl | rfl <;> rfl
theorem newsP3 (w : World) (s : StpD) (T : TypeId) : ∀ j u, s.cs[j]? = some u → (w.alloc (.cells s.cs.toArray T)).cell? ((⟨w.heap.size, 0, none⟩ : Addr).add j) = some u := World.news_of_block (cs := s.cs.toArray) (t := T) (fr := (0, 0)) (heap_alloc_new _ _)
def RunP (l : List Int) (n : Nat) (w : World) (e : Ending) (w' : World) : Prop := ∃ v, e = .returned v ∧ Row w' 101 3 v (ofS n l (-1)).length (stepsC (ofS n l (-1))) ∧ (∀ k, v.ownBlock = some k → w.heap.size ≤ k) ∧ Upd [] w w'
set_option maxRecDepth 100000 in
set_option maxHeartbeats 6400000 in
theorem runOf_any (l : List Int) (a : Option Addr) (n cap : Nat) (w : World) (hI : IntsIn w a n l) (hn : n ≤ 400) (hnc : n ≤ cap) (hb : ∀ x ∈ l, 0 ≤ x ∧ x ≤ 15) :
    Calls Tryz.prog 52 #[.slice a n cap] w fun e w' => RunP l n w e w' := by
  obtain ⟨i0, hi, hz0, hz1, hz2⟩ := info_parts infoStepE
  have HI := Lib.hid hI
  have HLN := Lib.hid hI.len
  have HBD := Lib.hid hb
  clear hI hb
  have hn400 : ¬ (400 : Int) < (n : Int) := by omega
  go_enter Tryz.func52, Tryz.ntmps52
  go_wp2
  go_loopg [2, 13] 1000 (fun gg s2 s13 wr => ∃ i : Nat, i ≤ n ∧ gg = 1000 - i ∧ s13 = .int .i64 (i : Nat) ∧ s2 = .slice none 0 0 ∧ wr = w)
  case atStart => exact ⟨0, by omega, by omega, rfl, rfl, rfl⟩
  case round =>
    obtain ⟨i, hin, rfl, rfl, rfl, hwr⟩ := hrel
    subst hwr
    by_cases hc : i < n
    · have hcz : (i : Int) < (n : Int) := by omega
      have hil : i < l.length := by rw [HLN.out]; exact hc
      obtain ⟨b, off, rfl, hc1, _, _⟩ := HI.out.cell i hil
      obtain ⟨hx1, hx2⟩ := HBD.out l[i] (List.getElem_mem hil)
      generalize l[i] = x at *
      have hw1 : IntKind.i64.wrap ((i : Int) + 1) = ((i + 1 : Nat) : Int) := by rw [IntWalk.i64_in _ (by omega)]; rfl
      clear hil
      go_wp2
      go_roundg (1000 - (i + 1))
      · exact ⟨i + 1, by omega, by first | rfl | omega, by first | rfl | go_num, rfl, rfl⟩
      · omega
    · have hcz : ¬ (i : Int) < (n : Int) := by omega
      obtain rfl : i = n := by omega
      go_wp2
      obtain ⟨wo, hwo⟩ : ∃ wo : World, wo = wr := ⟨_, rfl⟩
      subst hwo
      go_loopg [0, 2, 5] 1000 (fun gg s0 s2 s5 wq => ∃ (m c : Nat) (a' : Option Addr) (r : List Int) (ah : Int) (out : List StpD), gg = 1000 - (i - m) ∧ m ≤ i ∧ m ≤ c ∧ s0 = .slice a' m c ∧ s5 = .int .i64 ah ∧ out.length ≤ i - m ∧ Hid (IntsIn wq a' m r) ∧ Hid (0 < m → ∀ b off, a' = some ⟨b, off, none⟩ → b < wo.heap.size) ∧ Hid (∀ x ∈ r, 0 ≤ x ∧ x ≤ 15) ∧ Hid (ofS i l (-1) = out ++ ofS m r ah) ∧
        Hid (Row wq 101 3 s2 out.length (stepsC out)) ∧ Hid (∀ k, s2.ownBlock = some k → wo.heap.size ≤ k) ∧ Hid (Upd [] wo wq))
      case atStart => exact ⟨i, cap, a, l, -1, [], by omega, by omega, hnc, rfl, rfl, by simp, HI, Lib.hid (fun h b off e => by
          obtain ⟨b', off', e', c, _⟩ := HI.out.cell 0 (by rw [HLN.out]; exact h)
          rw [e] at e'
          cases e'
          exact World.block_lt_of_cell? wo _ c), HBD, Lib.hid rfl, Lib.hid (Row.nil _ _ _), Lib.hid (by simp [Value.ownBlock]), Lib.hid (Upd.refl _ _)⟩
      case round =>
        obtain ⟨m, c, a', r, ah, out, rfl, hmi, hmc, rfl, rfl, hol, HIr, HLT, HBr, HE, HR, HO, HU⟩ := hrel
        rcases Nat.eq_zero_or_pos m with hm0 | hm0
        · subst hm0
          have hr0 : r = [] := List.eq_nil_of_length_eq_zero HIr.out.len
          subst hr0
          have HE2 : Hid (ofS i l (-1) = out) := Lib.hid (by rw [HE.out, ofS_nil, List.append_nil])
          have hv := HR.out.form
          obtain ⟨va, vc, rfl⟩ := hv
          go_wp2
          go_ret
          exact ⟨_, rfl, by rw [HE2.out]; exact HR.out, HO.out, HU.out⟩
        · have hmz : (0 : Int) < (m : Int) := by omega
          have hrl : r.length = m := HIr.out.len
          have hrn : r ≠ [] := fun e => by rw [e] at hrl; simp at hrl; omega
          have hnl := nextS_len r ah hrn
          have hh0 : 0 ≤ r.headD 0 := by
            cases r with
            | nil => exact absurd rfl hrn
            | cons x q => exact (HBr.out x List.mem_cons_self).1
          have HNX := Lib.hid (runNext_any r ah a' m c wr HIr.out (by omega) (by omega) hh0)
          unfold NextP9 at HNX
          obtain ⟨f, hf⟩ : ∃ f, m = f + 1 := ⟨m - 1, by omega⟩
          have HEx : Hid (ofS m r ah = (nextS r ah).1 :: ofS f (r.drop (nextS r ah).2) (r.getD ((nextS r ah).2 - 1) 0)) := Lib.hid (by rw [hf, ofS_succ, if_neg hrn])
          generalize nextS r ah = p at *
          obtain ⟨st, k⟩ := p
          dsimp only at hnl HNX HEx
          rw [hrl] at hnl
          obtain ⟨hk1, hk2⟩ := hnl
          have hrk : k - 1 < r.length := by omega
          obtain ⟨b, off, rfl, hcl, _, _⟩ := HIr.out.cell (k - 1) hrk
          have HGD : Hid (r.getD (k - 1) 0 = r[k - 1]) := Lib.hid (by rw [List.getD_eq_getElem?_getD, List.getElem?_eq_getElem hrk]; rfl)
          generalize r[k - 1] = ah2 at *
          have hb2 := World.block_lt_of_cell? wr _ hcl
          have HF1 := Lib.hid hf
          have HRN := Lib.hid hrn
          have HCL := Lib.hid hcl
          clear hrk hrl hf hrn hcl hb2 hh0
          go_wp2_with fail
          refine HNX.out.mono ?_
          rintro e w3 ⟨rfl, hU3⟩
          have HR3 := Lib.hid (HR.out.upd hU3 (by simp))
          have HU3 := Lib.hid (HU.out.then hU3)
          have HI3 := Lib.hid (HIr.out.pure hU3)
          obtain ⟨sy, sb, sm⟩ := st
          simp only [StpD.cs] at *
          obtain ⟨va, vc, rfl⟩ := HR.out.form
          obtain ⟨on, hon⟩ : ∃ on, out.length = on := ⟨_, rfl⟩
          have hT4 := Blk.new w3 [.int .i64 (sy : Nat), .int .i64 (sb : Nat), .int .i64 (sm : Nat)] 101
          have hR4 := HR3.out.alloc (.cells #[.int .i64 (sy : Nat), .int .i64 (sb : Nat), .int .i64 (sm : Nat)] 101)
          have hI4 := HI3.out.pure ((Upd.refl [] w3).alloc (.cells #[.int .i64 (sy : Nat), .int .i64 (sb : Nat), .int .i64 (sm : Nat)] 101))
          have hU4 := HU3.out.alloc (.cells #[.int .i64 (sy : Nat), .int .i64 (sb : Nat), .int .i64 (sm : Nat)] 101)
          rw [hon] at hR4 hol HO ⊢
          have HON := Lib.hid hon
          clear hU3 HNX HR HU hon HR3 HI3 HU3
          go_upto_region 12 with fail
          change Code.wp _ _ _ _ (w3.alloc (.cells #[.int .i64 (sy : Nat), .int .i64 (sb : Nat), .int .i64 (sm : Nat)] 101))
          generalize w3.alloc (.cells #[.int .i64 (sy : Nat), .int .i64 (sb : Nat), .int .i64 (sm : Nat)] 101) = w4 at *
          generalize w3.heap.size = g at *
          have t0 := hT4.cell 0 rfl
          have t1 := hT4.cell 1 rfl
          have t2 := hT4.cell 2 rfl
          have hRz := hR4.alloc (.cells #[.int .i64 (sy : Nat), .int .i64 (sb : Nat), .int .i64 (sm : Nat)] 101)
          have HNW : Hid (∀ j u, ([.int .i64 (sy : Nat), .int .i64 (sb : Nat), .int .i64 (sm : Nat)] : List Value)[j]? = some u → (w4.alloc (.cells #[.int .i64 (sy : Nat), .int .i64 (sb : Nat), .int .i64 (sm : Nat)] 101)).cell? ((⟨w4.heap.size, 0, none⟩ : Addr).add j) = some u) := Lib.hid (newsP3 w4 ⟨sy, sb, sm⟩ _)
          have HST : Hid (∀ v ∈ ([.int .i64 (sy : Nat), .int .i64 (sb : Nat), .int .i64 (sm : Nat)] : List Value), v.oneCell' = true) := Lib.hid (stp_one ⟨sy, sb, sm⟩)
          have HI4 := Lib.hid hI4
          have HU4 := Lib.hid hU4
          clear hI4 hU4 hT4 hR4
          go_wp2_with (at_builtin; refine wpList_app _ rfl _ _ 59 rfl 101 i0 _ 3 24 Tryz.underlying59 hi hz0 hz1 hz2 rfl (by omega) (.slice va on vc) on _ rfl hRz ⟨w4.heap.size, 0, none⟩ 1 1 [.int .i64 (sy : Nat), .int .i64 (sb : Nat), .int .i64 (sm : Nat)] rfl rfl HNW.out HST.out (by unfold maxLen; omega) (by omega) ?_)
          intro v5 w5 hR5 hU5 hT5
          obtain ⟨va5, vc5, rfl⟩ := hR5.form
          have hbw := HLT.out hm0 b off rfl
          have hI5 := HI4.out.upd (((Upd.refl [] w4).alloc (.cells #[.int .i64 (sy : Nat), .int .i64 (sb : Nat), .int .i64 (sm : Nat)] 101)).mono (fp' := (Value.slice va on vc).ownBlock.toList) (fun k hk => by simp at hk) |>.then hU5) (fun b' off' e hm => by
            cases e
            have := HO.out b (by simpa using hm)
            omega)
          have hU6 : Upd [] wo w5 := (HU4.out.alloc _).trans hU5 (fun k hk => .inr (HO.out k (by simpa using hk)))
          have hO6 : ∀ k, (Value.slice va5 (on + 1) vc5).ownBlock = some k → wo.heap.size ≤ k := fun k hk => by
            rcases hT5 with h | ⟨g', h1, h2⟩
            · exact HO.out k (by rw [← h]; exact hk)
            · rw [hk] at h1; cases h1; have := HU4.out.size; simp at h2; omega
          have hck2 : w5.cell? ⟨b, off + (k - 1), none⟩ = some (.int .i64 ah2) := by
            have hlt : k - 1 < r.length := by rw [HIr.out.len]; omega
            obtain ⟨b', off', e7, h7, _, _⟩ := hI5.cell (k - 1) hlt
            cases e7
            have hg := HGD.out
            rw [List.getD_eq_getElem?_getD, List.getElem?_eq_getElem hlt] at hg
            simp only [Option.getD_some] at hg
            rw [hg] at h7
            exact h7
          have HE9 : Hid (ofS i l (-1) = (out ++ [⟨sy, sb, sm⟩]) ++ ofS (m - k) (r.drop k) ah2) := Lib.hid (by
            rw [HE.out, HEx.out, HGD.out, List.append_assoc]
            have hd : (r.drop k).length = m - k := by rw [List.length_drop, HIr.out.len]
            rw [ofS_more f _ _ (by rw [hd]; have := HF1.out; omega), hd]
            rfl)
          have HB9 : Hid (∀ x ∈ r.drop k, 0 ≤ x ∧ x ≤ 15) := Lib.hid (fun x hx => HBr.out x (List.mem_of_mem_drop hx))
          have HI9 := Lib.hid (fun (a9 : Option Addr) (h : m - k = 0 ∨ a9 = some ⟨b, off + k, none⟩) => show ∀ n, IntsIn (w5.drewN n) a9 (m - k) (r.drop k) from fun n => by
            rcases h with h | rfl
            · exact ⟨by rw [List.length_drop, HIr.out.len], fun j hj => by rw [List.length_drop, HIr.out.len] at hj; omega⟩
            · exact (hI5.drop k hk2).pure ((Upd.refl [] w5).drewN n))
          have HR9 : Hid (∀ n, Row (w5.drewN n) 101 3 (.slice va5 (on + 1) vc5) (out ++ [(⟨sy, sb, sm⟩ : StpD)]).length (stepsC (out ++ [⟨sy, sb, sm⟩]))) := Lib.hid (fun n => by
            have e1 : (out ++ [(⟨sy, sb, sm⟩ : StpD)]).length = on + 1 := by rw [List.length_append, HON.out]; rfl
            have e2 : stepsC (out ++ [(⟨sy, sb, sm⟩ : StpD)]) = stepsC out ++ [.int .i64 (sy : Nat), .int .i64 (sb : Nat), .int .i64 (sm : Nat)] := by unfold stepsC; rw [List.flatMap_append]; rfl
            rw [e1, e2]
            exact hR5.drewN n)
          have HO9 := Lib.hid hO6
          have HU9 := Lib.hid hU6
          have HL9 : Hid ((out ++ [(⟨sy, sb, sm⟩ : StpD)]).length = on + 1) := Lib.hid (by rw [List.length_append, HON.out]; rfl)
          have hwk : IntKind.i64.wrap ((k : Int) - 1) = ((k - 1 : Nat) : Int) := by rw [IntWalk.i64_in _ (by omega)]; omega
          have hb1 : ((k - 1 : Nat) : Int) < (m : Int) := by omega
          have hb2 : (k : Int) ≤ (m : Int) := by omega
          have hb3 : (0 : Int) ≤ (k : Int) := by omega
          have hb4 : (m : Int) ≤ (c : Int) := by omega
          have hb5 : (0 : Int) ≤ ((k - 1 : Nat) : Int) := by omega
          clear hI5 hU6 hO6 hR5 hU5 hT5 hRz HNW HST t0 t1 t2 hbw
          rcases Nat.lt_or_ge k c with hkc | hkc
          · have hcz9 : ¬ c - k = 0 := by omega
            go_wp2
            go_quiet (fail)
            go_wp2
            go_roundg (1000 - (i - (m - k)))
            · exact ⟨m - k, c - k, _, r.drop k, ah2, out ++ [⟨sy, sb, sm⟩], rfl, by omega, by omega, rfl, rfl, by rw [HL9.out]; omega, Lib.hid (HI9.out _ (.inr rfl) nq), Lib.hid (fun h b' off' e => by first | (cases e; exact HLT.out hm0 b off rfl) | omega), HB9, HE9, Lib.hid (HR9.out nq), HO9, Lib.hid (HU9.out.drewN nq)⟩
            · omega
          · have hmk : m = k := by omega
            have hcz9 : c - k = 0 := by omega
            have HMK : Hid (m - k = 0) := Lib.hid (by omega)
            clear hmk
            go_wp2
            go_quiet (fail)
            go_wp2
            go_roundg (1000 - (i - (m - k)))
            · exact ⟨m - k, 0, _, r.drop k, ah2, out ++ [⟨sy, sb, sm⟩], rfl, by omega, by have := HMK.out; omega, rfl, rfl, by rw [HL9.out]; omega, Lib.hid (HI9.out _ (.inl HMK.out) nq), Lib.hid (fun h b' off' e => by first | (cases e; exact HLT.out hm0 b off rfl) | omega), HB9, HE9, Lib.hid (HR9.out nq), HO9, Lib.hid (HU9.out.drewN nq)⟩
            · omega
end Go.Proofs.YtdehkaknbmbieaaGreat
namespace Go.Proofs.YtdehkaknbmbieaaGreat
set_option linter.unusedVariables false
set_option linter.unusedSimpArgs false
set_option linter.unusedSectionVars false
open Go.RowKit
set_option linter.unusedVariables false
set_option linter.unusedSimpArgs false

/-- Steps that can be read where a slice leads. -/
structure StpIn (w : World) (a : Option Addr) (len : Nat) (l : List StpD) : Prop where
  len : l.length = len
  cell : ∀ i (h : i < l.length), ∃ b off, a = some ⟨b, off, none⟩ ∧ (w.cell? ⟨b, off + i * 3, none⟩ = some (.int .i64 (l[i].sym : Nat)) ∧ w.cell? ⟨b, off + i * 3 + 1, none⟩ = some (.int .i64 (l[i].bits : Nat)) ∧ w.cell? ⟨b, off + i * 3 + 2, none⟩ = some (.int .i64 (l[i].more : Nat)))
theorem StpIn.pure {w w' : World} {a : Option Addr} {len : Nat} {l : List StpD} (h : StpIn w a len l) (hU : Upd [] w w') : StpIn w' a len l :=
  ⟨h.len, fun i hi => by
    obtain ⟨b, off, e, c1, c2, c3⟩ := h.cell i hi
    have hb : b < w.heap.size := World.block_lt_of_cell? w _ c1
    exact ⟨b, off, e, (hU.at hb (by simp) _).trans c1, (hU.at hb (by simp) _).trans c2, (hU.at hb (by simp) _).trans c3⟩⟩
theorem stepsC_get : ∀ (l : List StpD) (i : Nat) (h : i < l.length) (j : Nat), j < 3 → (stepsC l)[i * 3 + j]? = l[i].cs[j]?
  | [], i, h, j, _ => absurd h (by simp)
  | s :: l, 0, h, j, hj => by
    rw [Nat.zero_mul, Nat.zero_add]
    unfold stepsC
    rw [List.flatMap_cons, List.getElem?_append_left (by simp [StpD.cs]; omega)]
    rfl
  | s :: l, i + 1, h, j, hj => by
    have ih := stepsC_get l i (by simpa using h) j hj
    unfold stepsC at *
    rw [List.flatMap_cons, List.getElem?_append_right (by simp [StpD.cs]; omega)]
    rw [show (i + 1) * 3 + j - s.cs.length = i * 3 + j by simp [StpD.cs]; omega, ih]
    rfl
theorem StpIn.row {w : World} {a : Option Addr} {n c : Nat} {l : List StpD} {T : TypeId} (h : Row w T 3 (.slice a n c) n (stepsC l)) (hl : l.length = n) : StpIn w a n l :=
  ⟨hl, fun i hi => by
    obtain ⟨g, cc, e, _, _⟩ := h.form' (by omega)
    cases e
    refine ⟨g, 0, rfl, ?_, ?_, ?_⟩
    · rw [Nat.zero_add]; exact h.cell (i * 3) (by have := stepsC_get l i hi 0 (by omega); rw [Nat.add_zero] at this; rw [this]; rfl)
    · rw [Nat.zero_add]; exact h.cell (i * 3 + 1) (by rw [stepsC_get l i hi 1 (by omega)]; rfl)
    · rw [Nat.zero_add]; exact h.cell (i * 3 + 2) (by rw [stepsC_get l i hi 2 (by omega)]; rfl)⟩
def cntS (c : List Nat) (s : StpD) : List Nat := if s.sym ≤ 18 then addAt c s.sym else c
/-- How often each symbol comes. -/
def countS (l : List StpD) : List Nat := l.foldl cntS (List.replicate 19 0)
theorem countS_snoc (l : List StpD) (s : StpD) : countS (l ++ [s]) = cntS (countS l) s := by unfold countS; rw [List.foldl_append]; rfl
theorem cntS_len (c : List Nat) (s : StpD) : (cntS c s).length = c.length := by unfold cntS; split; exact addAt_len _ _; rfl
theorem countS_ok (l : List StpD) : ∀ i, i ≤ l.length → (countS (l.take i)).length = 19 ∧ ∀ x ∈ countS (l.take i), x ≤ i
  | 0, _ => ⟨List.length_replicate, fun x hx => by have := List.eq_of_mem_replicate (show x ∈ List.replicate 19 0 from hx); omega⟩
  | i + 1, h => by
    obtain ⟨h1, h2⟩ := countS_ok l i (by omega)
    rw [List.take_succ_eq_append_getElem (show i < l.length by omega), countS_snoc]
    refine ⟨by rw [cntS_len, h1], ?_⟩
    unfold cntS
    split
    · exact addAt_le _ _ _ h2
    · intro x hx; have := h2 x hx; omega
theorem info19 : (Tryz.prog.info? 96).map (·.size) = some 19 := by kernel_rfl
def CntP (l : List StpD) (w : World) (e : Ending) (w' : World) : Prop := e = .returned (.agg (i64s (countS l)).toArray) ∧ Upd [] w w'
set_option maxRecDepth 100000 in
set_option maxHeartbeats 6400000 in
theorem runCount_any (l : List StpD) (a : Option Addr) (n cap : Nat) (w : World) (hI : StpIn w a n l) (hn : n ≤ 100000) :
    Calls Tryz.prog 53 #[.slice a n cap] w fun e w' => CntP l w e w' := by
  have HI := Lib.hid hI
  have HLN := Lib.hid hI.len
  have HCO := Lib.hid (countS_ok l)
  clear hI
  have HB0 : Hid (Blk (w.alloc (.cells (i64s (countS (l.take 0))).toArray 96)) w.heap.size (i64s (countS (l.take 0))) 96) := Lib.hid (Blk.new w _ _)
  have HU0 : Hid (Upd [] w (w.alloc (.cells (i64s (countS (l.take 0))).toArray 96))) := Lib.hid ((Upd.refl [] w).alloc _)
  go_enter Tryz.func53, Tryz.ntmps53
  go_upto_region 1 with fail
  change Code.wp _ _ _ _ (w.alloc (.cells (i64s (countS (l.take 0))).toArray 96))
  generalize w.alloc (.cells (i64s (countS (l.take 0))).toArray 96) = w1 at *
  generalize hg : w.heap.size = g at *
  have HG := Lib.hid hg
  clear hg
  go_wp2
  go_loopg [7] 200000 (fun gg s7 wr => ∃ i : Nat, i ≤ n ∧ gg = 200000 - i ∧ s7 = .int .i64 (i : Nat) ∧ Hid (Blk wr g (i64s (countS (l.take i))) 96) ∧ Hid (Upd [] w wr))
  case atStart => exact ⟨0, by omega, by omega, rfl, HB0, HU0⟩
  case round =>
    obtain ⟨i, hin, rfl, rfl, HB, HU⟩ := hrel
    by_cases hc : i < n
    · have hcz : (i : Int) < (n : Int) := by omega
      have hil : i < l.length := by rw [HLN.out]; exact hc
      have hw1 : IntKind.i64.wrap ((i : Int) + 1) = ((i + 1 : Nat) : Int) := by rw [IntWalk.i64_in _ (by omega)]; rfl
      obtain ⟨b, off, rfl, hc1, hc2, hc3⟩ := (HI.out.pure HU.out).cell i hil
      have HST : Hid (countS (l.take (i + 1)) = cntS (countS (l.take i)) l[i]) := Lib.hid (by rw [List.take_succ_eq_append_getElem hil, countS_snoc])
      obtain ⟨hlc, hbc⟩ := HCO.out i (by omega)
      generalize l[i] = s at *
      generalize countS (l.take i) = c at *
      obtain ⟨sy, sb, sm⟩ := s
      dsimp only at hc1 hc2 hc3
      have hT4 := Blk.new wr [.int .i64 (sy : Nat), .int .i64 (sb : Nat), .int .i64 (sm : Nat)] 101
      have hB4 := HB.out.alloc (.cells #[.int .i64 (sy : Nat), .int .i64 (sb : Nat), .int .i64 (sm : Nat)] 101)
      have hU4 := HU.out.alloc (.cells #[.int .i64 (sy : Nat), .int .i64 (sb : Nat), .int .i64 (sm : Nat)] 101)
      clear hil HB HU
      go_upto_region 4 with fail
      change Code.wp _ _ _ _ (wr.alloc (.cells #[.int .i64 (sy : Nat), .int .i64 (sb : Nat), .int .i64 (sm : Nat)] 101))
      generalize wr.alloc (.cells #[.int .i64 (sy : Nat), .int .i64 (sb : Nat), .int .i64 (sm : Nat)] 101) = w4 at *
      generalize wr.heap.size = q at *
      have t0 := hT4.cell 0 rfl
      have HB4 := Lib.hid hB4
      have HU4 := Lib.hid hU4
      clear hT4 hB4 hU4 hc1 hc2 hc3
      by_cases h18 : sy ≤ 18
      · have h18z : (sy : Int) ≤ 18 := by omega
        have hgt : c[sy]? = some (c.getD sy 0) := by rw [List.getD_eq_getElem?_getD, List.getElem?_eq_getElem (by omega)]; rfl
        have hle : c.getD sy 0 ≤ i := hbc _ (List.mem_of_getElem? hgt)
        have ca := HB4.out.cell sy (i64s_get c sy _ hgt)
        have fa := HB4.out.frz sy
        have HAd : Hid (cntS c ⟨sy, sb, sm⟩ = c.set sy (c.getD sy 0 + 1)) := Lib.hid (by unfold cntS; rw [if_pos h18]; rfl)
        generalize c.getD sy 0 = y at *
        have hwy : IntKind.i64.wrap ((y : Int) + 1) = ((y + 1 : Nat) : Int) := by rw [IntWalk.i64_in _ (by omega)]; rfl
        have h19 : (sy : Int) < 19 := by omega
        have HB5 : Hid (Blk (w4.setCell ⟨g, sy, none⟩ (.int .i64 ((y + 1 : Nat) : Int))) g (i64s (countS (l.take (i + 1)))) 96) := Lib.hid (by
          rw [HST.out, HAd.out, i64s_set]
          exact HB4.out.set sy _)
        have HU5 := Lib.hid (HU4.out.setCell (p := ⟨g, sy, none⟩) (.inr (by have := HG.out; show w.heap.size ≤ g; omega)) (.int .i64 ((y + 1 : Nat) : Int)))
        clear hgt hlc hbc HB4 HU4
        go_wp2
        go_roundg (200000 - (i + 1))
        · exact ⟨i + 1, by omega, by first | rfl | omega, by first | rfl | go_num, HB5, HU5⟩
        · omega
      · have h18z : ¬ (sy : Int) ≤ 18 := by omega
        have HB5 : Hid (Blk w4 g (i64s (countS (l.take (i + 1)))) 96) := Lib.hid (by
          rw [HST.out, cntS, if_neg h18]
          exact HB4.out)
        clear hlc hbc HB4
        go_wp2
        go_roundg (200000 - (i + 1))
        · exact ⟨i + 1, by omega, by first | rfl | omega, by first | rfl | go_num, HB5, HU4⟩
        · omega
    · have hcz : ¬ (i : Int) < (n : Int) := by omega
      obtain rfl : i = n := by omega
      have hl19 := (HCO.out i (by rw [HLN.out]; exact Nat.le_refl _)).1
      have htk : l.take i = l := List.take_of_length_le (by rw [HLN.out]; exact Nat.le_refl _)
      rw [htk] at HB hl19
      clear htk
      have hB := HB.out
      have HL19 : Hid ((i64s (countS l)).length = 19) := Lib.hid (by rw [length_i64s, hl19])
      clear HB hl19
      go_wp2_with (first
        | (refine wpList_loadBlk rfl 96 _ rfl g rfl 96 _ hB _ Tryz.underlying96 rfl (by rw [HL19.out]; kernel_rfl) ?_)
        | (refine wpList_storeBlk rfl 96 _ _ rfl g rfl _ rfl 96 _ hB (by rw [HL19.out]; kernel_rfl) rfl (i64s_one _) ?_; intro w2 hB3 hU2))
      exact bodyPost_ret (results_cell_row rfl _ _ _ _ _ _ _ rfl hB3 Tryz.underlying96 rfl (by rw [info19]; simp [HL19.out])) rfl ⟨rfl, HU.out.trans hU2 (fun k hk => by simp at hk; right; have := HG.out; omega)⟩
end Go.Proofs.YtdehkaknbmbieaaGreat

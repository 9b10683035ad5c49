/- Package runs: Of: its walk. -/
import Derived.Test.YtdehkaknbmbieaaGreatQAP
import Derived.Test.YtdehkaknbmbieaaGreatQAK
import Derived.Test.YtdehkaknbmbieaaGreatRows
import Derived.WalkKit
import Derived.StillTailTactics
import Derived.BigQuiet
import Derived.Deep.RegionHeld3
import Derived.Deep.RegionLaw
import Derived.Deep.DeepCutAuto
import Derived.Deep.DeepFit
import Derived.Deep.LoopGhost
import Derived.Deep.Light
import Derived.Test.YtdehkaknbmbieaaGreatQAD
import Derived.Test.YtdehkaknbmbieaaGreatQAE
namespace Go.Proofs.YtdehkaknbmbieaaGreat
set_option linter.unusedVariables false
set_option linter.unusedSimpArgs false
set_option linter.unusedSectionVars false
open Go.RowKit
set_option linter.unusedVariables false
set_option linter.unusedSimpArgs false

theorem infoStepE : (Tryz.prog.info? 101).map (fun i => (i.zero, i.size, i.bytes)) = some (some (.agg #[.int .i64 0, .int .i64 0, .int .i64 0]), 3, 24) := by kernel_rfl
theorem nextS_len (r : List Int) (a : Int) (h : r ≠ []) : 1 ≤ (nextS r a).2 ∧ (nextS r a).2 ≤ r.length := by
  have h1 := runC_le 0 r
  have h2 := runC_le a r
  have h3 : 1 ≤ r.length := by cases r with | nil => exact absurd rfl h | cons => simp
  unfold nextS
  split
  · unfold stepOf runM; dsimp only; rw [if_neg (by omega), if_neg (by omega)]; omega
  · split
    · unfold stepOf runM; dsimp only; rw [if_neg (by omega), if_pos rfl]; omega
    · split
      · unfold stepOf runM; dsimp only; rw [if_pos rfl]; omega
      · dsimp only; omega
/-- The steps of a row. -/
def ofS : Nat → List Int → Int → List StpD
  | 0, _, _ => []
  | f + 1, r, a => if r = [] then [] else (nextS r a).1 :: ofS f (r.drop (nextS r a).2) (r.getD ((nextS r a).2 - 1) 0)
theorem ofS_succ (f : Nat) (r : List Int) (a : Int) : ofS (f + 1) r a = if r = [] then [] else (nextS r a).1 :: ofS f (r.drop (nextS r a).2) (r.getD ((nextS r a).2 - 1) 0) := by rw [ofS]
theorem ofS_nil (f : Nat) (a : Int) : ofS f [] a = [] := by cases f with | zero => rfl | succ f => rw [ofS_succ, if_pos rfl]
theorem ofS_more : ∀ (f : Nat) (r : List Int) (a : Int), r.length ≤ f → ofS f r a = ofS r.length r a
  | 0, r, a, h => by rw [List.eq_nil_of_length_eq_zero (show r.length = 0 by omega)]; rfl
  | f + 1, r, a, h => by
    by_cases hr : r = []
    · rw [hr, ofS_nil, ofS_nil]
    · obtain ⟨h1, h2⟩ := nextS_len r a hr
      obtain ⟨m, hm⟩ : ∃ m, r.length = m + 1 := ⟨r.length - 1, by omega⟩
      rw [hm, ofS_succ, ofS_succ, if_neg hr, if_neg hr]
      have hd : (r.drop (nextS r a).2).length ≤ m := by rw [List.length_drop]; omega
      rw [ofS_more f _ _ (by omega), ofS_more m _ _ hd]
  termination_by f => f
theorem IntsIn.drop {w : World} {b off n : Nat} {l : List Int} (h : IntsIn w (some ⟨b, off, none⟩) n l) (k : Nat) (hk : k ≤ n) : IntsIn w (some ⟨b, off + k, none⟩) (n - k) (l.drop k) :=
  ⟨by rw [List.length_drop, h.len], fun i hi => by
    rw [List.length_drop, h.len] at hi
    obtain ⟨b', off', e, c, r⟩ := h.cell (k + i) (by rw [h.len]; omega)
    cases e
    exact ⟨b, off + k, rfl, by rw [List.getElem_drop, show off + k + i = off + (k + i) by omega]; exact c, by rw [List.getElem_drop]; exact r⟩⟩
def stepsC (l : List StpD) : List Value := l.flatMap StpD.cs
theorem stp_one (s : StpD) : ∀ v ∈ s.cs, v.oneCell' = true := by
  intro v hv
  simp [StpD.cs] at hv
  rcases hv with rfl | rfl | rfl <;> rfl
theorem newsP3 (w : World) (s : StpD) (T : TypeId) : ∀ j u, s.cs[j]? = some u → (w.alloc (.cells s.cs.toArray T)).cell? ((⟨w.heap.size, 0, none⟩ : Addr).add j) = some u := World.news_of_block (cs := s.cs.toArray) (t := T) (fr := (0, 0)) (heap_alloc_new _ _)
def RunP (l : List Int) (n : Nat) (w : World) (e : Ending) (w' : World) : Prop := ∃ v, e = .returned v ∧ Row w' 101 3 v (ofS n l (-1)).length (stepsC (ofS n l (-1))) ∧ (∀ k, v.ownBlock = some k → w.heap.size ≤ k) ∧ Upd [] w w'
set_option maxRecDepth 100000 in
set_option maxHeartbeats 6400000 in
theorem runOf_any (l : List Int) (a : Option Addr) (n cap : Nat) (w : World) (hI : IntsIn w a n l) (hn : n ≤ 400) (hnc : n ≤ cap) (hb : ∀ x ∈ l, 0 ≤ x ∧ x ≤ 15) :
    Calls Tryz.prog 52 #[.slice a n cap] w fun e w' => RunP l n w e w' := by
  obtain ⟨i0, hi, hz0, hz1, hz2⟩ := info_parts infoStepE
  have HI := Lib.hid hI
  have HLN := Lib.hid hI.len
  have HBD := Lib.hid hb
  clear hI hb
  have hn400 : ¬ (400 : Int) < (n : Int) := by omega
  go_enter Tryz.func52, Tryz.ntmps52
  go_wp2
  go_loopg [2, 13] 1000 (fun gg s2 s13 wr => ∃ i : Nat, i ≤ n ∧ gg = 1000 - i ∧ s13 = .int .i64 (i : Nat) ∧ s2 = .slice none 0 0 ∧ wr = w)
  case atStart => exact ⟨0, by omega, by omega, rfl, rfl, rfl⟩
  case round =>
    obtain ⟨i, hin, rfl, rfl, rfl, hwr⟩ := hrel
    subst hwr
    by_cases hc : i < n
    · have hcz : (i : Int) < (n : Int) := by omega
      have hil : i < l.length := by rw [HLN.out]; exact hc
      obtain ⟨b, off, rfl, hc1, _, _⟩ := HI.out.cell i hil
      obtain ⟨hx1, hx2⟩ := HBD.out l[i] (List.getElem_mem hil)
      generalize l[i] = x at *
      have hw1 : IntKind.i64.wrap ((i : Int) + 1) = ((i + 1 : Nat) : Int) := by rw [IntWalk.i64_in _ (by omega)]; rfl
      clear hil
      go_wp2
      go_roundg (1000 - (i + 1))
      · exact ⟨i + 1, by omega, by first | rfl | omega, by first | rfl | go_num, rfl, rfl⟩
      · omega
    · have hcz : ¬ (i : Int) < (n : Int) := by omega
      obtain rfl : i = n := by omega
      go_wp2
      obtain ⟨wo, hwo⟩ : ∃ wo : World, wo = wr := ⟨_, rfl⟩
      subst hwo
      go_loopg [0, 2, 5] 1000 (fun gg s0 s2 s5 wq => ∃ (m c : Nat) (a' : Option Addr) (r : List Int) (ah : Int) (out : List StpD), gg = 1000 - (i - m) ∧ m ≤ i ∧ m ≤ c ∧ s0 = .slice a' m c ∧ s5 = .int .i64 ah ∧ out.length ≤ i - m ∧ Hid (IntsIn wq a' m r) ∧ Hid (0 < m → ∀ b off, a' = some ⟨b, off, none⟩ → b < wo.heap.size) ∧ Hid (∀ x ∈ r, 0 ≤ x ∧ x ≤ 15) ∧ Hid (ofS i l (-1) = out ++ ofS m r ah) ∧
        Hid (Row wq 101 3 s2 out.length (stepsC out)) ∧ Hid (∀ k, s2.ownBlock = some k → wo.heap.size ≤ k) ∧ Hid (Upd [] wo wq))
      case atStart => exact ⟨i, cap, a, l, -1, [], by omega, by omega, hnc, rfl, rfl, by simp, HI, Lib.hid (fun h b off e => by
          obtain ⟨b', off', e', c, _⟩ := HI.out.cell 0 (by rw [HLN.out]; exact h)
          rw [e] at e'
          cases e'
          exact World.block_lt_of_cell? wo _ c), HBD, Lib.hid rfl, Lib.hid (Row.nil _ _ _), Lib.hid (by simp [Value.ownBlock]), Lib.hid (Upd.refl _ _)⟩
      case round =>
        obtain ⟨m, c, a', r, ah, out, rfl, hmi, hmc, rfl, rfl, hol, HIr, HLT, HBr, HE, HR, HO, HU⟩ := hrel
        rcases Nat.eq_zero_or_pos m with hm0 | hm0
        · subst hm0
          have hr0 : r = [] := List.eq_nil_of_length_eq_zero HIr.out.len
          subst hr0
          have HE2 : Hid (ofS i l (-1) = out) := Lib.hid (by rw [HE.out, ofS_nil, List.append_nil])
          have hv := HR.out.form
          obtain ⟨va, vc, rfl⟩ := hv
          go_wp2
          go_ret
          exact ⟨_, rfl, by rw [HE2.out]; exact HR.out, HO.out, HU.out⟩
        · have hmz : (0 : Int) < (m : Int) := by omega
          have hrl : r.length = m := HIr.out.len
          have hrn : r ≠ [] := fun e => by rw [e] at hrl; simp at hrl; omega
          have hnl := nextS_len r ah hrn
          have hh0 : 0 ≤ r.headD 0 := by
            cases r with
            | nil => exact absurd rfl hrn
            | cons x q => exact (HBr.out x List.mem_cons_self).1
          have HNX := Lib.hid (runNext_any r ah a' m c wr HIr.out (by omega) (by omega) hh0)
          unfold NextP9 at HNX
          obtain ⟨f, hf⟩ : ∃ f, m = f + 1 := ⟨m - 1, by omega⟩
          have HEx : Hid (ofS m r ah = (nextS r ah).1 :: ofS f (r.drop (nextS r ah).2) (r.getD ((nextS r ah).2 - 1) 0)) := Lib.hid (by rw [hf, ofS_succ, if_neg hrn])
          generalize nextS r ah = p at *
          obtain ⟨st, k⟩ := p
          dsimp only at hnl HNX HEx
          rw [hrl] at hnl
          obtain ⟨hk1, hk2⟩ := hnl
          have hrk : k - 1 < r.length := by omega
          obtain ⟨b, off, rfl, hcl, _, _⟩ := HIr.out.cell (k - 1) hrk
          have HGD : Hid (r.getD (k - 1) 0 = r[k - 1]) := Lib.hid (by rw [List.getD_eq_getElem?_getD, List.getElem?_eq_getElem hrk]; rfl)
          generalize r[k - 1] = ah2 at *
          have hb2 := World.block_lt_of_cell? wr _ hcl
          have HF1 := Lib.hid hf
          have HRN := Lib.hid hrn
          have HCL := Lib.hid hcl
          clear hrk hrl hf hrn hcl hb2 hh0
          go_wp2_with fail
          refine HNX.out.mono ?_
          rintro e w3 ⟨rfl, hU3⟩
          have HR3 := Lib.hid (HR.out.upd hU3 (by simp))
          have HU3 := Lib.hid (HU.out.then hU3)
          have HI3 := Lib.hid (HIr.out.pure hU3)
          obtain ⟨sy, sb, sm⟩ := st
          simp only [StpD.cs] at *
          obtain ⟨va, vc, rfl⟩ := HR.out.form
          obtain ⟨on, hon⟩ : ∃ on, out.length = on := ⟨_, rfl⟩
          have hT4 := Blk.new w3 [.int .i64 (sy : Nat), .int .i64 (sb : Nat), .int .i64 (sm : Nat)] 101
          have hR4 := HR3.out.alloc (.cells #[.int .i64 (sy : Nat), .int .i64 (sb : Nat), .int .i64 (sm : Nat)] 101)
          have hI4 := HI3.out.pure ((Upd.refl [] w3).alloc (.cells #[.int .i64 (sy : Nat), .int .i64 (sb : Nat), .int .i64 (sm : Nat)] 101))
          have hU4 := HU3.out.alloc (.cells #[.int .i64 (sy : Nat), .int .i64 (sb : Nat), .int .i64 (sm : Nat)] 101)
          rw [hon] at hR4 hol HO ⊢
          have HON := Lib.hid hon
          clear hU3 HNX HR HU hon HR3 HI3 HU3
          go_upto_region 12 with fail
          change Code.wp _ _ _ _ (w3.alloc (.cells #[.int .i64 (sy : Nat), .int .i64 (sb : Nat), .int .i64 (sm : Nat)] 101))
          generalize w3.alloc (.cells #[.int .i64 (sy : Nat), .int .i64 (sb : Nat), .int .i64 (sm : Nat)] 101) = w4 at *
          generalize w3.heap.size = g at *
          have t0 := hT4.cell 0 rfl
          have t1 := hT4.cell 1 rfl
          have t2 := hT4.cell 2 rfl
          have hRz := hR4.alloc (.cells #[.int .i64 (sy : Nat), .int .i64 (sb : Nat), .int .i64 (sm : Nat)] 101)
          have HNW : Hid (∀ j u, ([.int .i64 (sy : Nat), .int .i64 (sb : Nat), .int .i64 (sm : Nat)] : List Value)[j]? = some u → (w4.alloc (.cells #[.int .i64 (sy : Nat), .int .i64 (sb : Nat), .int .i64 (sm : Nat)] 101)).cell? ((⟨w4.heap.size, 0, none⟩ : Addr).add j) = some u) := Lib.hid (newsP3 w4 ⟨sy, sb, sm⟩ _)
          have HST : Hid (∀ v ∈ ([.int .i64 (sy : Nat), .int .i64 (sb : Nat), .int .i64 (sm : Nat)] : List Value), v.oneCell' = true) := Lib.hid (stp_one ⟨sy, sb, sm⟩)
          have HI4 := Lib.hid hI4
          have HU4 := Lib.hid hU4
          clear hI4 hU4 hT4 hR4
          go_wp2_with (at_builtin; refine wpList_app _ rfl _ _ 59 rfl 101 i0 _ 3 24 Tryz.underlying59 hi hz0 hz1 hz2 rfl (by omega) (.slice va on vc) on _ rfl hRz ⟨w4.heap.size, 0, none⟩ 1 1 [.int .i64 (sy : Nat), .int .i64 (sb : Nat), .int .i64 (sm : Nat)] rfl rfl HNW.out HST.out (by unfold maxLen; omega) (by omega) ?_)
          intro v5 w5 hR5 hU5 hT5
          obtain ⟨va5, vc5, rfl⟩ := hR5.form
          have hbw := HLT.out hm0 b off rfl
          have hI5 := HI4.out.upd (((Upd.refl [] w4).alloc (.cells #[.int .i64 (sy : Nat), .int .i64 (sb : Nat), .int .i64 (sm : Nat)] 101)).mono (fp' := (Value.slice va on vc).ownBlock.toList) (fun k hk => by simp at hk) |>.then hU5) (fun b' off' e hm => by
            cases e
            have := HO.out b (by simpa using hm)
            omega)
          have hU6 : Upd [] wo w5 := (HU4.out.alloc _).trans hU5 (fun k hk => .inr (HO.out k (by simpa using hk)))
          have hO6 : ∀ k, (Value.slice va5 (on + 1) vc5).ownBlock = some k → wo.heap.size ≤ k := fun k hk => by
            rcases hT5 with h | ⟨g', h1, h2⟩
            · exact HO.out k (by rw [← h]; exact hk)
            · rw [hk] at h1; cases h1; have := HU4.out.size; simp at h2; omega
          have hck2 : w5.cell? ⟨b, off + (k - 1), none⟩ = some (.int .i64 ah2) := by
            have hlt : k - 1 < r.length := by rw [HIr.out.len]; omega
            obtain ⟨b', off', e7, h7, _, _⟩ := hI5.cell (k - 1) hlt
            cases e7
            have hg := HGD.out
            rw [List.getD_eq_getElem?_getD, List.getElem?_eq_getElem hlt] at hg
            simp only [Option.getD_some] at hg
            rw [hg] at h7
            exact h7
          have HE9 : Hid (ofS i l (-1) = (out ++ [⟨sy, sb, sm⟩]) ++ ofS (m - k) (r.drop k) ah2) := Lib.hid (by
            rw [HE.out, HEx.out, HGD.out, List.append_assoc]
            have hd : (r.drop k).length = m - k := by rw [List.length_drop, HIr.out.len]
            rw [ofS_more f _ _ (by rw [hd]; have := HF1.out; omega), hd]
            rfl)
          have HB9 : Hid (∀ x ∈ r.drop k, 0 ≤ x ∧ x ≤ 15) := Lib.hid (fun x hx => HBr.out x (List.mem_of_mem_drop hx))
          have HI9 := Lib.hid (fun (a9 : Option Addr) (h : m - k = 0 ∨ a9 = some ⟨b, off + k, none⟩) => show ∀ n, IntsIn (w5.drewN n) a9 (m - k) (r.drop k) from fun n => by
            rcases h with h | rfl
            · exact ⟨by rw [List.length_drop, HIr.out.len], fun j hj => by rw [List.length_drop, HIr.out.len] at hj; omega⟩
            · exact (hI5.drop k hk2).pure ((Upd.refl [] w5).drewN n))
          have HR9 : Hid (∀ n, Row (w5.drewN n) 101 3 (.slice va5 (on + 1) vc5) (out ++ [(⟨sy, sb, sm⟩ : StpD)]).length (stepsC (out ++ [⟨sy, sb, sm⟩]))) := Lib.hid (fun n => by
            have e1 : (out ++ [(⟨sy, sb, sm⟩ : StpD)]).length = on + 1 := by rw [List.length_append, HON.out]; rfl
            have e2 : stepsC (out ++ [(⟨sy, sb, sm⟩ : StpD)]) = stepsC out ++ [.int .i64 (sy : Nat), .int .i64 (sb : Nat), .int .i64 (sm : Nat)] := by unfold stepsC; rw [List.flatMap_append]; rfl
            rw [e1, e2]
            exact hR5.drewN n)
          have HO9 := Lib.hid hO6
          have HU9 := Lib.hid hU6
          have HL9 : Hid ((out ++ [(⟨sy, sb, sm⟩ : StpD)]).length = on + 1) := Lib.hid (by rw [List.length_append, HON.out]; rfl)
          have hwk : IntKind.i64.wrap ((k : Int) - 1) = ((k - 1 : Nat) : Int) := by rw [IntWalk.i64_in _ (by omega)]; omega
          have hb1 : ((k - 1 : Nat) : Int) < (m : Int) := by omega
          have hb2 : (k : Int) ≤ (m : Int) := by omega
          have hb3 : (0 : Int) ≤ (k : Int) := by omega
          have hb4 : (m : Int) ≤ (c : Int) := by omega
          have hb5 : (0 : Int) ≤ ((k - 1 : Nat) : Int) := by omega
          clear hI5 hU6 hO6 hR5 hU5 hT5 hRz HNW HST t0 t1 t2 hbw
          rcases Nat.lt_or_ge k c with hkc | hkc
          · have hcz9 : ¬ c - k = 0 := by omega
            go_wp2
            go_quiet (fail)
            go_wp2
            go_roundg (1000 - (i - (m - k)))
            · exact ⟨m - k, c - k, _, r.drop k, ah2, out ++ [⟨sy, sb, sm⟩], rfl, by omega, by omega, rfl, rfl, by rw [HL9.out]; omega, Lib.hid (HI9.out _ (.inr rfl) nq), Lib.hid (fun h b' off' e => by first | (cases e; exact HLT.out hm0 b off rfl) | omega), HB9, HE9, Lib.hid (HR9.out nq), HO9, Lib.hid (HU9.out.drewN nq)⟩
            · omega
          · have hmk : m = k := by omega
            have hcz9 : c - k = 0 := by omega
            have HMK : Hid (m - k = 0) := Lib.hid (by omega)
            clear hmk
            go_wp2
            go_quiet (fail)
            go_wp2
            go_roundg (1000 - (i - (m - k)))
            · exact ⟨m - k, 0, _, r.drop k, ah2, out ++ [⟨sy, sb, sm⟩], rfl, by omega, by have := HMK.out; omega, rfl, rfl, by rw [HL9.out]; omega, Lib.hid (HI9.out _ (.inl HMK.out) nq), Lib.hid (fun h b' off' e => by first | (cases e; exact HLT.out hm0 b off rfl) | omega), HB9, HE9, Lib.hid (HR9.out nq), HO9, Lib.hid (HU9.out.drewN nq)⟩
            · omega
end Go.Proofs.YtdehkaknbmbieaaGreat
namespace Go.Proofs.YtdehkaknbmbieaaGreat
set_option linter.unusedVariables false
set_option linter.unusedSimpArgs false
set_option linter.unusedSectionVars false
open Go.RowKit

theorem infoU8 : (Tryz.prog.info? 5).map (fun i => (i.zero, i.size, i.bytes)) = some (some (.int .u8 0), 1, 1) := by kernel_rfl

/-- A Writer at block b with bits L, of which m bytes are whole; v: its slice. -/
structure WrAt (w : World) (b : Nat) (v : Value) (L : List Bool) (m : Nat) : Prop where
  blk : Blk w b [v, .int .u64 (rest L m : Nat), .int .i64 (L.length - 8 * m : Nat)] 31
  row : Row w 5 1 v m (u8s (outs L m))
  le : 8 * m ≤ L.length
  far : v.ownBlock ≠ some b
/-- The blocks that it lies in. -/
def wrFp (b : Nat) (v : Value) : List Nat := b :: v.ownBlock.toList
theorem WrAt.upd {w w' : World} {b : Nat} {v : Value} {L : List Bool} {m : Nat} {fp : List Nat} (h : WrAt w b v L m) (hu : Upd fp w w') (hb : b ∉ fp) (hv : ∀ k, v.ownBlock = some k → k ∉ fp) : WrAt w' b v L m :=
  ⟨h.blk.upd hu hb, h.row.upd hu hv, h.le, h.far⟩

def BitsPost (w : World) (b : Nat) (v : Value) (L : List Bool) (e : Ending) (w' : World) : Prop :=
  e = .returned (.tuple #[]) ∧ ∃ v', WrAt w' b v' L (L.length / 8) ∧ Upd (wrFp b v) w w' ∧ Later w v v'

def BitsRel (w : World) (b : Nat) (v : Value) (L : List Bool) (g : Nat) (wr : World) : Prop :=
  ∃ m v', WrAt wr b v' L m ∧ g = L.length - 8 * m ∧ Upd (wrFp b v) w wr ∧ Later w v v'

theorem bits_store (p X K n : Nat) (hp : p < 2 ^ n) (hX : X < 4294967296) (hK : K ≤ 32) (hn : n ≤ 7) :
    bits BinOp.or IntKind.u64 (p : Int) (IntKind.u64.wrap (bits BinOp.and IntKind.u64 (IntKind.u64.wrap (X : Int)) (IntKind.u64.wrap (IntKind.u64.wrap (2 ^ K) - 1)) * 2 ^ n)) = ((p + 2 ^ n * (X % 2 ^ K) : Nat) : Int) := by
  have hn2 : 2 ^ n ≤ 2 ^ 7 := Nat.pow_le_pow_right (by omega) hn
  have hK2 : 2 ^ K ≤ 2 ^ 32 := Nat.pow_le_pow_right (by omega) hK
  have hK1 : 1 ≤ 2 ^ K := Nat.one_le_two_pow
  have h1 : IntKind.u64.wrap (X : Int) = (X : Int) := IntWalk.u64_in _ (by omega)
  have e2 : (2 : Int) ^ K = ((2 ^ K : Nat) : Int) := by simp
  have e3 : (2 : Int) ^ n = ((2 ^ n : Nat) : Int) := by simp
  rw [h1, e2, e3]
  have h2 : IntKind.u64.wrap ((2 ^ K : Nat) : Int) = ((2 ^ K : Nat) : Int) := IntWalk.u64_in _ (by omega)
  have h3 : IntKind.u64.wrap (((2 ^ K : Nat) : Int) - 1) = ((2 ^ K - 1 : Nat) : Int) := by rw [IntWalk.u64_in _ (by omega)]; omega
  have hs : X % 2 ^ K < 2 ^ K := Nat.mod_lt _ (by omega)
  have hm : (X &&& (2 ^ K - 1)) = X % 2 ^ K := Nat.and_two_pow_sub_one_eq_mod X K
  have hb : X % 2 ^ K * 2 ^ n ≤ 2 ^ 32 * 2 ^ 7 := Nat.mul_le_mul (by omega) hn2
  rw [h2, h3, u64_and_nat _ _ (by omega) (by omega), hm, ← Int.natCast_mul, IntWalk.u64_in _ (by omega), u64_or_nat _ _ (by omega) (by omega), ← hm, or_step p X K n hp, hm]

theorem bits_close {w0 w wa w1 : World} {b g cap m N : Nat} {v v' x : Value} {L' : List Bool} (hW' : WrAt w b v' L' m) (hU : Upd (wrFp b v) w0 w) (hLt : Later w0 v v') (hc : 8 * (m + 1) ≤ L'.length)
    (hwa : Upd [] w wa) (hgrow : wa.grownBy w1 v'.ownBlock) (hat : v'.ownBlock = some g ∨ g = N) (hN : w.heap.size ≤ N)
    (hown1 : w1.ownsRow 0 5 1 (.slice (some ⟨g, 0, none⟩) (m + 1) cap) (m + 1) (u8s (outs L' m) ++ [x])) (hx : x = .int .u8 (chunk L' m : Nat)) :
    BitsRel w0 b v L' (L'.length - 8 * (m + 1)) (((w1.setCell ⟨b, 0, none⟩ (.slice (some ⟨g, 0, none⟩) (m + 1) cap)).setCell ⟨b, 1, none⟩ (.int .u64 (((rest L' m : Nat) : Int) / 256))).setCell ⟨b, 2, none⟩ (.int .i64 (((L'.length - 8 * m : Nat) : Int) - 8))) := by
  have hgb : (Value.slice (some ⟨g, 0, none⟩) (m + 1) cap).ownBlock ≠ some b := by
    have hb := hW'.blk.lt
    have hf := hW'.far
    rcases hat with h | h
    · rw [h] at hf; exact hf
    · simp only [Value.ownBlock, ne_eq, Option.some.injEq]; omega
  have hBw : Blk w1 b _ _ := (hW'.blk.upd hwa (by simp)).grown hgrow hW'.far
  refine ⟨m + 1, .slice (some ⟨g, 0, none⟩) (m + 1) cap, ⟨?_, ?_, hc, hgb⟩, rfl, ?_, ?_⟩
  · have h := ((hBw.set 0 (.slice (some ⟨g, 0, none⟩) (m + 1) cap)).set 1 (.int .u64 (((rest L' m : Nat) : Int) / 256))).set 2 (.int .i64 (((L'.length - 8 * m : Nat) : Int) - 8))
    have e1 : (((rest L' m : Nat) : Int) / 256) = ((rest L' (m + 1) : Nat) : Int) := by rw [rest_succ _ _ hc]; simp
    have e2 : (((L'.length - 8 * m : Nat) : Int) - 8) = ((L'.length - 8 * (m + 1) : Nat) : Int) := by omega
    rw [← e1, ← e2]
    exact h
  · rw [outs_succ, u8s_snoc, ← hx]
    exact (((Row.of_owns hown1).setFar _ hgb).setFar _ hgb).setFar _ hgb
  · have hU1 : Upd (wrFp b v) w0 w1 := (hU.then (hwa.mono (by simp))).grown hgrow (fun k hk => by
      rcases hLt with h | ⟨j, h, hj⟩
      · exact .inl (by simp [wrFp, ← h, hk])
      · rw [h] at hk; cases hk; exact .inr hj)
    exact ((hU1.setCell (.inl (by simp [wrFp])) _).setCell (.inl (by simp [wrFp])) _).setCell (.inl (by simp [wrFp])) _
  · rcases hat with h | h
    · rcases hLt with h' | ⟨j, h', hj⟩
      · exact .inl (by rw [← h', h]; rfl)
      · exact .inr ⟨j, by rw [← h', h]; rfl, hj⟩
    · exact .inr ⟨g, rfl, by have := hU.size; omega⟩

set_option maxRecDepth 100000 in
set_option maxHeartbeats 3200000 in
theorem bits_any (b X : Nat) (x k : Int) (K : Nat) (w : World) (v : Value) (L : List Bool) (hx : x = (X : Nat)) (hX : X < 4294967296) (hW : WrAt w b v L (L.length / 8)) (hL : L.length ≤ 1099511627776)
    (hK32 : K ≤ 32) (hK : Hid ((K : Int) = max 0 (min k 32))) :
    Calls Tryz.prog 21 #[.pointer (some ⟨b, 0, none⟩), .int .u32 x, .int .i64 k] w (BitsPost w b v (L ++ low K X)) := by
  subst hx
  obtain ⟨i0, hi, hz0, hz1, hz2⟩ := info_parts infoU8
  have h0 := hW.blk.cell 0 rfl
  have h1 := hW.blk.cell 1 rfl
  have h2 := hW.blk.cell 2 rfl
  have f0 := hW.blk.frz 0
  have f1 := hW.blk.frz 1
  have f2 := hW.blk.frz 2
  have hle := hW.le
  have hn7 : L.length - 8 * (L.length / 8) ≤ 7 := by omega
  have hnn : (0 : Int) ≤ ((L.length - 8 * (L.length / 8) : Nat) : Int) := by omega
  have hK0 : (0 : Int) ≤ (K : Int) := by omega
  have hst := Lib.hid (bits_store (rest L (L.length / 8)) X K (L.length - 8 * (L.length / 8)) (rest_lt L _) hX hK32 hn7)
  have hre : rest L (L.length / 8) + 2 ^ (L.length - 8 * (L.length / 8)) * (X % 2 ^ K) = rest (L ++ low K X) (L.length / 8) := by rw [rest_append _ _ _ hle, val_low]
  rw [hre] at hst
  clear hre
  go_enter Tryz.func21, Tryz.ntmps21
  go_upto_region 1 with fail
  go_cut [2] (fun s2 wx => s2 = .int .i64 (K : Nat) ∧ wx = w)
  case first =>
    go_wp2
    all_goals go_meet
    all_goals (refine ⟨?_, rfl⟩; first | (rw [hK.out]; done) | (rw [hK.out]; congr 1; omega))
  case rest =>
    obtain ⟨rfl, rfl⟩ := hcut
    go_upto_region 2 with fail
    go_still_tail 18, (by kernel_rfl)
    rw [hst.out]
    go_wp2
    have hLK : Hid ((L ++ low K X).length = L.length + K) := Lib.hid (by rw [List.length_append, length_low])
    have hlo : Hid (outs (L ++ low K X) (L.length / 8) = outs L (L.length / 8)) := Lib.hid (outs_append _ _ _ hle)
    have hub' : (L ++ low K X).length ≤ 2000000000000 := by rw [List.length_append, length_low]; omega
    generalize L ++ low K X = L' at *
    go_loopg [] (L'.length - 8 * (L.length / 8)) (fun g wr => BitsRel wc b v L' g wr)
    case atStart =>
      refine ⟨L.length / 8, v, ⟨?_, ?_, by rw [hLK.out]; omega, hW.far⟩, rfl, ?_, .refl _ _⟩
      · have h := (hW.blk.set 1 (.int .u64 (rest L' (L.length / 8) : Nat))).set 2 (.int .i64 (((L.length - 8 * (L.length / 8) : Nat) : Int) + (K : Int)))
        have e : (((L.length - 8 * (L.length / 8) : Nat) : Int) + (K : Int)) = ((L'.length - 8 * (L.length / 8) : Nat) : Int) := by
          rw [hLK.out]; omega
        rw [← e]
        exact h
      · rw [hlo.out]
        exact (((hW.row).setFar _ hW.far).setFar _ hW.far).drew
      · exact (((Upd.refl _ _).setCell (.inl (by simp [wrFp])) _).setCell (.inl (by simp [wrFp])) _).drew
    case round =>
      obtain ⟨m, v', hW', rfl, hU, hLt⟩ := hrel
      clear h0 h1 h2 f0 f1 f2 hst hnn hn7 hlo hLK
      have h0 := hW'.blk.cell 0 rfl
      have h1 := hW'.blk.cell 1 rfl
      have h2 := hW'.blk.cell 2 rfl
      have f0 := hW'.blk.frz 0
      have f1 := hW'.blk.frz 1
      have f2 := hW'.blk.frz 2
      by_cases hc : 8 ≤ L'.length - 8 * m
      · have hcz : (8 : Int) ≤ ((L'.length - 8 * m : Nat) : Int) := by omega
        have hub : ((L'.length - 8 * m : Nat) : Int) ≤ 2000000000000 := by omega
        have hbw := hW'.blk.lt
        have hfar := hW'.far
        have hrow := hW'.row
        have hmm : m ≤ 2000000000000 := by omega
        go_wp2_with fail
        go_region_law ((refine step_append_lies _ (by rfl) _ _ _ (by rfl) 0 5 i0 _ 1 1 Tryz.underlying28 hi hz0 hz1 hz2 rfl (by omega) v' m _ (by rfl) (Row.alloc (Row.drew hrow) _) ⟨wr.heap.size, 0, none⟩ 1 1 [_] (by rfl) (by rfl) (World.news_of_block (cs := #[_]) (t := 5) (fr := (0, 0)) (heap_alloc_new _ _)) (by simp [Value.oneCell']) (by omega) (by unfold maxLen; omega) (by omega) (by simp) (wr.heap.size + 1) (by simp) ?_; intro g cap w1 hown1 hgrow hat hlt; have hBw := (hW'.blk.drew.alloc _).grown hgrow hfar; have k0 := hBw.cell 0 rfl; have k1 := hBw.cell 1 rfl; have k2 := hBw.cell 2 rfl; have e0 := hBw.frz 0; have e1 := hBw.frz 1; have e2 := hBw.frz 2))
        all_goals go_wp2
        all_goals go_roundg (L'.length - 8 * (m + 1))
        all_goals first | omega | (refine bits_close hW' hU hLt (by omega) (by first | exact ((Upd.refl _ _).drew.alloc _) | exact ((Upd.refl _ _).alloc _).drew) hgrow hat (by omega) hown1 ?_; rw [chunk_rest _ _ (by omega), IntKind.wrap_u8]; simp)
      · have hcz : ((L'.length - 8 * m : Nat) : Int) < 8 := by omega
        go_wp2
        go_end0
        have hm : m = L'.length / 8 := by have := hW'.le; omega
        exact ⟨rfl, v', hm ▸ hW', hU, hLt⟩
end Go.Proofs.YtdehkaknbmbieaaGreat

/- Package lz: places: its walk, and the iterator's contract. -/
import Derived.Deep.QuietTactic
import Derived.BigQuiet
import Derived.Sort.QuietIn
import Derived.Stop.RegionWithIn
import Derived.OwnWalkIn
import Derived.TacticsInMore
import Derived.LoopNIn
import Derived.LoopIn
import Derived.Sort.LoopGhostIn
import Derived.Test.YtdehkaknbmbieaaGreatQAK
import Derived.Test.YtdehkaknbmbieaaGreatQAL
import Derived.OrdersIn
import Derived.TacticsIn
import Derived.WalkKit
import Derived.RangeFuncCalls
import Derived.Deep.RegionHeld
import Derived.Test.YtdehkaknbmbieaaGreatQAD
namespace Go.Proofs.YtdehkaknbmbieaaGreat
set_option linter.unusedVariables false
set_option linter.unusedSimpArgs false
set_option linter.unusedSectionVars false
open Go.RowKit Go.Maps
attribute [local go_sem] Oper.semAt_some
set_option linter.unusedVariables false
set_option linter.unusedSimpArgs false

theorem lzplaces_any (fb i : Nat) (w : World) : Calls Tryz.prog 102 #[.pointer (some ⟨fb, 0, none⟩), .int .i64 (i : Nat)] w fun e w' =>
    e = .returned (.func (.func 132) #[] #[.pointer (some ⟨w.heap.size + 1, 0, none⟩), .pointer (some ⟨w.heap.size, 0, none⟩)]) ∧ w' = (w.alloc (.cells #[.pointer (some ⟨fb, 0, none⟩)] 116)).alloc (.cells #[.int .i64 (i : Nat)] 3) := by
  go_enter Tryz.func102, Tryz.ntmps102
  go_wp2
  go_ret
  exact ⟨by simp, rfl⟩
theorem Row.keep {w w' : World} {e : TypeId} {size : Nat} {v : Value} {n : Nat} {xs : List Value} {ks : List Nat} (h : Row w e size v n xs) (hk : Keep ks w w') (hv : ∀ k, v.ownBlock = some k → k ∈ ks) : Row w' e size v n xs := by
  refine ⟨h.1, ?_⟩
  rcases h.2 with h2 | ⟨g, cap, cur, e1, hb, hg, hr⟩
  · exact .inl h2
  · exact .inr ⟨g, cap, cur, e1, hb, (hk.2 g (hv g (by rw [e1]; rfl))).trans hg, hr⟩
theorem FinR.keep {w w' : World} {fb mb : Nat} {S : ByteArray} {v : Value} {m : Nat} {D : Int} {ks : List Nat} (h : FinR w fb mb S v m D) (hk : Keep ks w w') (hf : fb ∈ ks) (hv : ∀ k, v.ownBlock = some k → k ∈ ks) : FinR w' fb mb S v m D := by
  obtain ⟨a, ⟨xs, c1, c2, c3⟩, d⟩ := h
  exact ⟨(hk.2 fb hf).trans a, ⟨xs, c1, c2, c3.keep hk hv⟩, d⟩
set_option maxRecDepth 100000 in
set_option maxHeartbeats 4000000 in
theorem lzplaces_seq (S : ByteArray) (fb mb bi bf i : Nat) (v : Value) (m : Nat) (D : Int) (w : World) (hs : S.size ≤ 65000) (hi : i ≤ S.size) (hD : 0 ≤ D ∧ D ≤ 2000) (hm : m ≤ 65000) (hF : FinAt w fb mb S v m D) (hbi : Blk w bi [.int .i64 (i : Nat)] 3) (hbf : Blk w bf [.pointer (some ⟨fb, 0, none⟩)] 116) :
    SeqN Tryz.prog 132 #[.pointer (some ⟨bi, 0, none⟩), .pointer (some ⟨bf, 0, none⟩)] (fun p : Nat => #[.int .i64 (p : Nat)]) [] (bi :: bf :: fb :: v.ownBlock.toList) (fun _ => True) (fun _ => True) (fun pre p => p < m ∧ (i : Int) - (p : Int) ≤ 32768) w := by
  intro l J Jx W hU hz hJ hJx hY h0
  have HR := Lib.hid (hF.1.upd hU (by simp) (by simp))
  obtain ⟨nm, hnm, hM⟩ := hF.2
  have HM := Lib.hid (show FinM W mb nm m from hM.upd hU (by simp))
  have HI := Lib.hid (hbi.upd hU (by simp))
  have HF := Lib.hid (hbf.upd hU (by simp))
  have HJ := Lib.hid (fun s (A B : World) (h : J s A) (hu : Upd [] A B) => hJ s A B h (own2_of (fq := []) hu (fun k hk => hk) (fun k hk => by simp at hk)))
  have HY := Lib.hid hY
  have HJ0 := Lib.hid h0
  clear hJ hY h0 hJx hU hz hF hM hbi hbf
  refine callsIn_of_wp Tryz.func132 rfl trivial ?_ rfl
  simp only [Tryz.ntmps132, List.size_toArray, List.length_cons, List.length_nil, Nat.reduceAdd, Nat.reduceSub, Array.replicate_succ, Array.replicate_zero, List.push_toArray, List.append_toArray, List.nil_append, List.cons_append]
  have c0 := HR.out.1.cell 0 rfl
  have ci := HI.out.cell 0 rfl
  have cf := HF.out.cell 0 rfl
  have hiw : IntKind.i64.wrap ((i : Int) + 3) = (i : Int) + 3 := by rw [IntWalk.i64_in _ (by omega)]
  by_cases h3 : S.size < i + 3
  · have h3z : (S.size : Int) < (i : Int) + 3 := by omega
    gi_wp2_with fail
    gi_quiet (fail)
    have HJq := Lib.hid (HJ.out _ _ _ HJ0.out ((Upd.refl [] W).drewN nq))
    generalize W.drewN nq = w4 at *
    gi_wp2
    refine bodyPost_ret (results_none rfl _ _ _) rfl ?_
    exact ⟨⟨_, rfl⟩, .inl ⟨[], trivial, HJq.out⟩⟩
  · have h3z : ¬ (S.size : Int) < (i : Int) + 3 := by omega
    have h3m : i + 3 ≤ S.size := by omega
    gi_wp2_with fail
    gi_quiet (fail)
    have hAq : Upd [] W (W.drewN nq) := (Upd.refl [] W).drewN nq
    have HJ1 := Lib.hid (HJ.out _ _ _ HJ0.out hAq)
    have HR1 := Lib.hid (HR.out.upd hAq (by simp) (by simp))
    have HM1 := Lib.hid (show FinM _ mb nm m from HM.out.upd hAq (by simp))
    have HI1 := Lib.hid (HI.out.upd hAq (by simp))
    have HF1 := Lib.hid (HF.out.upd hAq (by simp))
    clear hAq HJ0 HR HM HI HF c0 ci cf
    generalize W.drewN nq = w4 at *
    have c0 := HR1.out.1.cell 0 rfl
    have ci := HI1.out.cell 0 rfl
    have cf := HF1.out.cell 0 rfl
    have HKY := Lib.hid (lzkey_any S i fb _ _ _ w4 hs h3m HR1.out.1)
    obtain ⟨kl, hkl⟩ := key3_lit S i h3m
    obtain ⟨X, Y, Z, hkv⟩ : ∃ X Y Z : Int, key3 S i h3m = .agg #[.int .u8 X, .int .u8 Y, .int .u8 Z] := ⟨_, _, _, rfl⟩
    rw [hkv] at HKY hkl
    have HKL := Lib.hid hkl
    clear hkl hkv
    gi_wp2_with fail
    refine ⟨trivial, (callsIn_wide.2 HKY.out).mono ?_⟩
    rintro e w2 ⟨rfl, hU2⟩
    have HJ2 := Lib.hid (HJ.out _ _ _ HJ1.out hU2)
    have HR2 := Lib.hid (HR1.out.upd hU2 (by simp) (by simp))
    have HM2 := Lib.hid (show FinM _ mb nm m from HM1.out.upd hU2 (by simp))
    have HI2 := Lib.hid (HI1.out.upd hU2 (by simp))
    have HF2 := Lib.hid (HF1.out.upd hU2 (by simp))
    clear hU2 HKY HJ1 HR1 HM1 HI1 HF1 c0 ci cf
    gi_wp2_with fail
    have hA3 : Upd [] w2 (w2.alloc (.cells #[.int .u8 X, .int .u8 Y, .int .u8 Z] 147)) := (Upd.refl [] w2).alloc _
    have HK3 := Lib.hid (Blk.new w2 [.int .u8 X, .int .u8 Y, .int .u8 Z] 147)
    have HJ3 := Lib.hid (HJ.out _ _ _ HJ2.out hA3)
    have HR3 := Lib.hid (HR2.out.upd hA3 (by simp) (by simp))
    have HM3 := Lib.hid (show FinM _ mb nm m from HM2.out.upd hA3 (by simp))
    have HI3 := Lib.hid (HI2.out.upd hA3 (by simp))
    have HF3 := Lib.hid (HF2.out.upd hA3 (by simp))
    clear hA3 HJ2 HR2 HM2 HI2 HF2
    change Code.wpIn _ _ _ _ _ _ (w2.alloc (.cells #[.int .u8 X, .int .u8 Y, .int .u8 Z] 147))
    generalize w2.alloc (.cells #[.int .u8 X, .int .u8 Y, .int .u8 Z] 147) = w3 at *
    generalize w2.heap.size = kb at *
    have c1 := HR3.out.1.cell 1 rfl
    have cf := HF3.out.cell 0 rfl
    have k0 := HK3.out.cell 0 rfl
    have k1 := HK3.out.cell 1 rfl
    have k2 := HK3.out.cell 2 rfl
    rcases (show FinM w3.drew mb nm m from HM3.out.upd ((Upd.refl [] w3).drew) (by simp)).look three_keyed Tryz.underlying117 Tryz.underlying3 (zeroI _) HKL.out with hlk | ⟨p, hpm, hlk⟩
    · gi_region
      have HJ4 := Lib.hid (HJ.out _ _ _ HJ3.out ((Upd.refl [] w3).drew))
      clear c1 cf k0 k1 k2 hlk HJ3 HR3 HM3 HI3 HF3 HK3 HKL
      generalize w3.drew = w4 at *
      gi_wp2
      refine bodyPost_ret (results_none rfl _ _ _) rfl ?_
      exact ⟨⟨_, rfl⟩, .inl ⟨[], trivial, HJ4.out⟩⟩
    · gi_region
      have hA4 : Upd [] w3 w3.drew := (Upd.refl [] w3).drew
      have HJ4 := Lib.hid (HJ.out _ _ _ HJ3.out hA4)
      have HR4 := Lib.hid (HR3.out.upd hA4 (by simp) (by simp))
      have HI4 := Lib.hid (HI3.out.upd hA4 (by simp))
      have HF4 := Lib.hid (HF3.out.upd hA4 (by simp))
      clear c1 cf k0 k1 k2 hlk HJ3 HR3 HM3 HI3 HF3 HK3 HKL hA4
      generalize w3.drew = w4 at *
      obtain ⟨d, rfl⟩ : ∃ d : Nat, D = (d : Int) := ⟨D.toNat, by omega⟩
      have hd2 : d ≤ 2000 := by omega
      gi_wp2
      gi_loopg [5, 7] d (fun gg s5 s7 wr => ∃ (n : Nat) (z : Int) (pre : List Nat), n ≤ d ∧ gg = d - n ∧ s7 = .int .i64 (n : Nat) ∧ s5 = .int .i64 z ∧ (-1 ≤ z ∧ z < m) ∧ Hid (J pre wr) ∧ Hid (FinR wr fb mb S v m (d : Int)) ∧ Hid (Blk wr bi [.int .i64 (i : Nat)] 3) ∧ Hid (Blk wr bf [.pointer (some ⟨fb, 0, none⟩)] 116))
      case atStart => exact ⟨0, _, [], by omega, by omega, rfl, rfl, by omega, HJ4, HR4, HI4, HF4⟩
      case round =>
        obtain ⟨n, z, pre, hn, rfl, rfl, rfl, ⟨hz1, hz2⟩, HJp, HRp, HIp, HFp⟩ := hrel
        clear HJ4 HR4 HI4 HF4
        have c3 := HRp.out.1.cell 3 rfl
        have ci := HIp.out.cell 0 rfl
        have cf := HFp.out.cell 0 rfl
        by_cases hnd : n < d
        · have hndz : (n : Int) < (d : Int) := by omega
          by_cases hz0 : 0 ≤ z
          · obtain ⟨p, rfl⟩ : ∃ p : Nat, z = (p : Int) := ⟨z.toNat, by omega⟩
            have hzw : IntKind.i64.wrap ((i : Int) - (p : Int)) = (i : Int) - (p : Int) := by rw [IntWalk.i64_in _ (by omega)]
            by_cases hfar : (i : Int) - (p : Int) ≤ 32768
            · have hpm : p < m := by omega
              obtain ⟨fn, tmps, assign, body, hy, hRd⟩ := HY.out pre p wr HJp.out ⟨hpm, hfar⟩ (by simp)
              obtain ⟨hFB, ⟨xs, hxl, hxb, hxr⟩, hno⟩ := HRp.out
              obtain ⟨gv, gc, hve, -, -⟩ := hxr.form' (by omega)
              rw [hve] at hxr
              have hpx : p < xs.length := by omega
              have cp := hxr.cell p (u := .int .i64 xs[p]) (by unfold zvs; rw [List.getElem?_map, List.getElem?_eq_getElem hpx]; rfl)
              have hxb2 := hxb xs[p] (List.getElem_mem hpx)
              generalize xs[p] = z' at *
              have HVE := Lib.hid hve
              have hnw : IntKind.i64.wrap ((n : Int) + 1) = ((n + 1 : Nat) : Int) := by rw [IntWalk.i64_in _ (by omega)]; rfl
              clear hFB hxl hxb hxr hno hpx hve
              gi_wp2
              refine hRd.mono ?_
              rintro e W3 (⟨rfl, hJ3, hk3⟩ | ⟨rfl, hJx3⟩)
              · have HJ3 := Lib.hid hJ3
                have HR3 := Lib.hid (HRp.out.keep hk3 (by simp) (fun k hk => by simp [hk]))
                have HI3 := Lib.hid (show Blk W3 bi _ _ from (hk3.2 bi (by simp)).trans HIp.out)
                have HF3 := Lib.hid (show Blk W3 bf _ _ from (hk3.2 bf (by simp)).trans HFp.out)
                have cf3 := HF3.out.cell 0 rfl
                have c23 := HR3.out.1.cell 2 rfl
                rw [HVE.out] at c23
                have cp3 : W3.cell? ⟨gv, p, none⟩ = some (.int .i64 z') := by
                  have e := hk3.2 gv (by simp [HVE.out, Value.ownBlock])
                  rw [← cp]
                  exact World.cell?_of_block (w := wr) (w' := W3) (a := ⟨gv, p, none⟩) e
                have hpz : (p : Int) < (m : Int) := by omega
                clear hk3 hJ3 hRd cf c3 ci cp
                gi_wp2
                gi_roundg (d - (n + 1))
                · exact ⟨n + 1, z', pre ++ [p], by omega, by omega, by first | rfl | go_num, rfl, by omega, HJ3, HR3, HI3, HF3⟩
                · omega
              · have HJx3 := Lib.hid hJx3
                clear hJx3 hRd
                gi_wp2
                refine bodyPost_ret (results_none rfl _ _ _) rfl ?_
                first | exact ⟨⟨_, rfl⟩, .inr ⟨_, HJx3.out⟩⟩ | exact ⟨⟨_, rfl⟩, .inr ⟨_, trivial, HJx3.out⟩⟩
            · gi_wp2
              go_end0
              first | exact ⟨⟨_, rfl⟩, .inl ⟨pre, HJp.out⟩⟩ | exact ⟨⟨_, rfl⟩, .inl ⟨pre, trivial, HJp.out⟩⟩
          · gi_wp2
            go_end0
            first | exact ⟨⟨_, rfl⟩, .inl ⟨pre, HJp.out⟩⟩ | exact ⟨⟨_, rfl⟩, .inl ⟨pre, trivial, HJp.out⟩⟩
        · have hndz : ¬ (n : Int) < (d : Int) := by omega
          gi_wp2
          go_end0
          first | exact ⟨⟨_, rfl⟩, .inl ⟨pre, HJp.out⟩⟩ | exact ⟨⟨_, rfl⟩, .inl ⟨pre, trivial, HJp.out⟩⟩
end Go.Proofs.YtdehkaknbmbieaaGreat
namespace Go.Proofs.YtdehkaknbmbieaaGreat
set_option linter.unusedVariables false
set_option linter.unusedSimpArgs false
set_option linter.unusedSectionVars false
open Go.RowKit

def noDefers (ops : Array Oper) : Bool := ops.all fun o => match o.op with | .defer _ => false | _ => true
theorem noDefers_spec {ops : Array Oper} (h : noDefers ops = true) {i : Nat} {o : Oper} (hi : ops[i]? = some o) : ∀ c, o.op ≠ .defer c := by
  intro c e
  unfold noDefers at h
  rw [Array.all_eq_true] at h
  obtain ⟨hl, hg⟩ := Array.getElem?_eq_some_iff.1 hi
  have := h i hl
  rw [hg, e] at this
  cases this
theorem rowsIn_of {n l : Nat} {P : Program} {row : String} {args : Array Value} {w : World} {R : Value → World → Prop} (h : Rows P row args w R) : RowsIn (Fence.wide.inRound l) n P row args w R := by
  intro c cs _
  obtain ⟨v, w', hr, hs⟩ := h c cs
  refine ⟨v, w', hr, ?_⟩
  rw [fenced_inRound]
  exact stepsIn_wide.2 hs
theorem opIn_of {n l : Nat} {P : Program} {o : Oper} {a : Act} {w : World} {K : Act → World → Prop} {Q : Exit → Act → World → Prop} (hd : ∀ c, o.op ≠ .defer c) (h : o.wp P a w K Q) : o.wpIn (Fence.wide.inRound l) n P a w K Q := by
  refine ⟨fun _ _ => trivial, ?_⟩
  rw [Oper.semAt_eq _ _ _ hd]
  unfold Oper.wp at h
  generalize (execOp a.eval o).run P w = r at h ⊢
  cases r with
  | ok x w' =>
    cases x with
    | value v => exact h
    | skip => exact h
    | defer d => exact h
    | enter f args => exact ⟨fun e => by simp [Fence.inRound, Fence.wide] at e, CallsIn.inRound l ((callsIn_wide.2 h).mono fun e w'' he => by cases e <;> exact he)⟩
    | row r args => exact ⟨fun e => by simp [Fence.inRound, Fence.wide] at e, rowsIn_of h⟩
    | _ => exact h.elim
  | halt x w' => cases x <;> exact h
theorem wpOpIn_of {n l : Nat} {P : Program} {ops : Array Oper} {Q : Exit → Act → World → Prop} (hno : ¬ LetsOut Q) (hd : noDefers ops = true) {i : Nat} {K : Act → World → Prop} {a : Act} {w : World} (h : wpOp P ops Q i K a w) : wpOpIn (Fence.wide.inRound l) n P ops Q i K a w := by
  unfold wpOp at h
  unfold wpOpIn
  cases hi : ops[i]? with
  | none => rw [hi] at h; exact h
  | some o =>
    rw [hi] at h
    simp only at h ⊢
    by_cases hw : Region.wanted o (yielded ops a.tmps) = true
    · rw [if_pos hw] at h ⊢
      rcases h with h | h
      · exact opIn_of (noDefers_spec hd hi) h
      · exact absurd h.2 hno
    · rw [if_neg hw] at h ⊢
      exact ⟨fun _ _ => trivial, h⟩
theorem wpAnyIn_of {n l : Nat} {P : Program} {md : Region.Mode} {ops : Array Oper} {Q : Exit → Act → World → Prop} (hno : ¬ LetsOut Q) (hd : noDefers ops = true) : ∀ (fuel : Nat) (listed : Array Bool) (a : Act) (w : World), wpAny P md ops Q fuel listed a w → wpAnyIn (Fence.wide.inRound l) n P md ops Q fuel listed a w
  | 0, _, _, _, h => h
  | fuel + 1, listed, a, w, h => ⟨h.1, fun i hi => wpOpIn_mono (fun a' w' h' => wpAnyIn_of hno hd fuel _ a' w' h') (wpOpIn_of hno hd (h.2 i hi))⟩
/-- **A region that draws its order, in a round: as in a plain walk, where it does not panic.** -/
theorem regionIn_held {n l id : Nat} {P : Program} {ops : Array Oper} {Q : Exit → Act → World → Prop} {S : World → Prop} {a : Act} {w : World} (hm : P.follows .mixedOrders = true) (hd : noDefers ops = true) (hS : S w.drew)
    (h : S w.drew → ∀ K : Act → World → Prop, (∀ a w, Q .normal a w → K a w) → wpAnyH P .any ops (Exit.then K fun _ _ _ => False) S ops.size (Array.replicate ops.size false) a w.drew) : (Code.region id ops true).wpIn (Fence.wide.inRound l) n P Q a w := by
  refine wpIn_mono (wpIn_region_any hm (wpAnyIn_of ?_ hd _ _ _ _ (wpAny_of_held _ _ _ _ (h hS (fun a w => Q .normal a w) fun _ _ h => h)))) ?_
  · rintro ⟨a, w, h⟩
    exact h
  · intro e a w h
    cases e <;> first | exact h | exact h.elim
end Go.Proofs.YtdehkaknbmbieaaGreat

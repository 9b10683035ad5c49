/- Package extent: the set in memory, its iterator's contract, and the law of a loop over it. -/
import Derived.Test.YtibmhadnfggmlaaExtQ
import Derived.Test.YtibmhadnfggmlaaApp
import Derived.Test.YtibmhadnfggmlaaBase
import Derived.RangeFuncNested
import Derived.RangeFuncBound
import Derived.RangeFuncCalls
import Derived.RangeFuncLeaves
import Derived.Shelf.Abstract
import Derived.Shelf.RegionOpen
import Derived.WalkKit
import Derived.OwnWalkIn
import Derived.TacticsInMore
import Derived.LoopNIn
import Derived.LoopIn
import Derived.Test.YtibmhadnfggmlaaProg
namespace Go.Proofs.Ytibmhadnfggmlaa
open Go.RowKit Go.Shelf
attribute [local go_sem] Oper.semAt_some

def enc2 (x : Int × Int) : List Value := [.int .i64 x.1, .int .i64 x.2]
def flat (l : List (Int × Int)) : List Value := l.flatMap enc2
theorem flat_len (l : List (Int × Int)) : (flat l).length = l.length * 2 := by
  induction l with
  | nil => rfl
  | cons x l ih => unfold flat at ih ⊢; rw [List.flatMap_cons, List.length_append, ih]; simp [enc2]; omega
theorem flat_append (a b : List (Int × Int)) : flat (a ++ b) = flat a ++ flat b := by simp [flat]
theorem flat_get (l : List (Int × Int)) (k : Nat) (h : k < l.length) : (flat l)[k * 2]? = some (.int .i64 l[k].1) ∧ (flat l)[k * 2 + 1]? = some (.int .i64 l[k].2) := by
  have e : l = l.take k ++ ([l[k]] ++ l.drop (k + 1)) := by simp
  have hk : (flat (l.take k)).length = k * 2 := by rw [flat_len, List.length_take, Nat.min_eq_left (by omega)]
  have e2 : flat l = flat (l.take k) ++ ([.int .i64 l[k].1, .int .i64 l[k].2] ++ flat (l.drop (k + 1))) := by
    conv => lhs; rw [e, flat_append, flat_append]
    rfl
  rw [e2]
  constructor
  · rw [List.getElem?_append_right (by omega), hk, Nat.sub_self]; rfl
  · rw [List.getElem?_append_right (by omega), hk]
    have : k * 2 + 1 - k * 2 = 1 := by omega
    rw [this]; rfl
/-- The set at p has the spans l, in blocks below n₀. -/
def SetIn (n₀ : Nat) (w : World) (p : Option Addr) (l : List (Int × Int)) : Prop :=
  (p = none ∧ l = []) ∨ ∃ b v, p = some ⟨b, 0, none⟩ ∧ b < n₀ ∧ Blk w b [v] 58 ∧ Row w 24 2 v l.length (flat l) ∧ (∀ g, v.ownBlock = some g → g < n₀ ∧ g ≠ b) ∧ l.length ≤ 1000000
theorem Blk.below {n : Nat} {w w' : World} {b : Nat} {cs : List Value} {t : TypeId} (h : Blk w b cs t) (hB : Below n w w') (hb : b < n) : Blk w' b cs t := (hB.block b hb).trans h
theorem Row.below {n : Nat} {w w' : World} {e : TypeId} {size : Nat} {v : Value} {k : Nat} {xs : List Value} (h : Row w e size v k xs) (hB : Below n w w') (hn : ∀ g, v.ownBlock = some g → g < n) : Row w' e size v k xs := by
  refine ⟨h.1, ?_⟩
  rcases h.2 with h2 | ⟨g, cap, cur, hv, hb, hg, hr⟩
  · exact .inl h2
  · exact .inr ⟨g, cap, cur, hv, hb, (hB.block g (hn g (by rw [hv]; rfl))).trans hg, hr⟩
theorem SetIn.below {n : Nat} {w w' : World} {p : Option Addr} {l : List (Int × Int)} (h : SetIn n w p l) (hB : Below n w w') : SetIn n w' p l := by
  rcases h with h | ⟨b, v, h1, h2, h3, h4, h5, h6⟩
  · exact .inl h
  · exact .inr ⟨b, v, h1, h2, h3.below hB h2, h4.below hB (fun g hg => (h5 g hg).1), h5, h6⟩
theorem SetIn.mono {n n' : Nat} {w : World} {p : Option Addr} {l : List (Int × Int)} (h : SetIn n w p l) (hn : n ≤ n') : SetIn n' w p l := by
  rcases h with h | ⟨b, v, h1, h2, h3, h4, h5, h6⟩
  · exact .inl h
  · exact .inr ⟨b, v, h1, by omega, h3, h4, fun g hg => ⟨by have := (h5 g hg).1; omega, (h5 g hg).2⟩, h6⟩
theorem SetIn.len {n : Nat} {w : World} {p : Option Addr} {l : List (Int × Int)} (h : SetIn n w p l) : l.length ≤ 1000000 := by
  rcases h with ⟨_, rfl⟩ | ⟨b, v, h1, h2, h3, h4, h5, h6⟩
  · simp
  · exact h6

theorem all_any (p0 : Option Addr) (w : World) : Calls Try.prog 12 #[.pointer p0] w fun e w' =>
    e = .returned (.func (.func 31) #[] #[.pointer (some ⟨w.heap.size, 0, none⟩)]) ∧ w' = w.alloc (.cells #[.pointer p0] 27) := by
  go_enter Try.func12, Try.ntmps12
  go_wp2
  go_ret
  exact ⟨rfl, rfl⟩

set_option maxRecDepth 100000 in
set_option maxHeartbeats 2000000 in
theorem all1_in (l Bs n₀ : Nat) (p : Option Addr) (zs : List (Int × Int)) (J Jx : List {x // x ∈ zs} → World → Prop) (W : World) (hJ : AbidesFrom W.heap.size J) (hnW : n₀ ≤ W.heap.size)
    (hY : ∀ pre (x : {x // x ∈ zs}) W, J pre W → pre.length < zs.length → YieldAt Fence.wide (8 - 1) Try.prog l #[.agg #[.int .i64 x.1.1, .int .i64 x.1.2]] W fun e W' =>
      (e = .returned (.bool true) ∧ J (pre ++ [x]) W' ∧ Below n₀ W W') ∨ (e = .returned (.bool false) ∧ Jx (pre ++ [x]) W'))
    (hBs : W.cell? ⟨Bs, 0, none⟩ = some (.pointer p)) (hS : SetIn n₀ W p zs) (h0 : J [] W) :
    CallsIn Fence.wide 8 Try.prog 31 #[.func (.yield l) #[] #[], .pointer (some ⟨Bs, 0, none⟩)] W fun e W' => (∃ v, e = .returned v) ∧
      ((∃ ys, ys = zs.attach ∧ J ys W') ∨ (∃ pre, pre <+: zs.attach ∧ Jx pre W')) := by
  refine callsIn_of_wp Try.func31 rfl trivial ?_ rfl
  simp only [Try.ntmps31, List.size_toArray, List.length_cons, List.length_nil, Nat.reduceAdd, Nat.reduceSub, Array.replicate_succ, Array.replicate_zero, List.push_toArray, List.append_toArray, List.nil_append, List.cons_append]
  rcases hS with ⟨rfl, rfl⟩ | ⟨b, v, rfl, hb, hB, hR, hg, hl⟩
  · gi_wp2
    refine bodyPost_ret (results_none rfl _ _ _) rfl ?_
    exact ⟨⟨_, rfl⟩, .inl ⟨[], rfl, h0⟩⟩
  · have c0 := hB.cell 0 rfl
    obtain ⟨ra, rc, rfl⟩ := hR.form
    have HR := Lib.hid hR
    have HB := Lib.hid hB
    clear hR hB
    gi_wp2
    gi_loopw [12] (fun i wr => ∃ k : Nat, k ≤ zs.length ∧ i = .int .i64 k ∧ J (zs.attach.take k) wr ∧ Below n₀ W wr)
      (fun i _ => zs.length - (intOf i).toNat)
    case atStart => exact ⟨0, Nat.zero_le _, rfl, h0, Below.refl _ _⟩
    case round =>
      obtain ⟨k, hk, rfl, hJs, hnx⟩ := hrel
      by_cases hlt : k < zs.length
      · obtain ⟨g, cap, hv, hgl, hcap⟩ := HR.out.form' (by omega)
        cases hv
        have hgn := (hg g rfl).1
        have hR2 := HR.out.below hnx (fun g' hg' => (hg g' hg').1)
        obtain ⟨f0, f1⟩ := flat_get zs k hlt
        have d0 := hR2.cell (k * 2) f0
        have d1 := hR2.cell (k * 2 + 1) f1
        have hxa : zs[k] ∈ zs := List.getElem_mem hlt
        have hJw := (hJ (zs.attach.take k) wr (wr.alloc (.cells #[.int .i64 zs[k].1, .int .i64 zs[k].2] 24)) none hJs (World.grownBy_alloc wr _ none) (fun r e => by cases e))
        obtain ⟨fn, tmps, assign, body, hy, hRd⟩ := hY _ ⟨zs[k], hxa⟩ _ hJw (by rw [List.length_take, List.length_attach, Nat.min_eq_left (by omega)]; exact hlt)
        have hsx := hnx.size
        have hal : Below n₀ W (wr.alloc (.cells #[.int .i64 zs[k].1, .int .i64 zs[k].2] 24)) := hnx.alloc (by omega) _
        have hta : zs.attach.take (k + 1) = zs.attach.take k ++ [⟨zs[k], hxa⟩] := by
          rw [List.take_succ_eq_append_getElem (by rw [List.length_attach]; exact hlt), List.getElem_attach]
        have HT := Lib.hid hta
        have HN := Lib.hid hnx
        clear hta f0 f1 hR2 hnx hJs hJw c0 h0
        dsimp only at hy
        generalize zs[k].1 = za at *
        generalize zs[k].2 = zb at *
        gi_wp2
        refine hRd.mono ?_
        rintro e W3 (⟨rfl, hJ3, hk3⟩ | ⟨rfl, hJx3⟩)
        · gi_wp2
          go_roundw
          case rel => exact ⟨k + 1, by omega, by simp, by rw [HT.out]; exact hJ3, hal.trans hk3⟩
          case measure => simp [intOf]; omega
        · gi_wp2
          refine bodyPost_ret (results_none rfl _ _ _) rfl ?_
          exact ⟨⟨_, rfl⟩, .inr ⟨_, by rw [← HT.out]; exact List.take_prefix _ _, hJx3⟩⟩
      · obtain rfl : k = zs.length := by omega
        gi_wp2
        go_end0
        refine ⟨⟨_, rfl⟩, .inl ⟨_, rfl, ?_⟩⟩
        rw [show zs.length = zs.attach.length from List.length_attach.symm, List.take_length] at hJs
        exact hJs
end Go.Proofs.Ytibmhadnfggmlaa

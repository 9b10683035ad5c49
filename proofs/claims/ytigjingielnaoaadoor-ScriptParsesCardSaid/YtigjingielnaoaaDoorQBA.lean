/- Package strings: SplitSeq at any sign: the iterator's contract. -/
import Derived.Test.YtigjingielnaoaaDoorQAU
import Derived.Test.YtigjingielnaoaaDoorQAL
import Derived.OrdersIn
import Derived.TacticsIn
import Derived.WalkKit
import Derived.RangeFuncCalls
import Derived.Deep.RegionHeld
import Derived.Test.YtigjingielnaoaaDoorQAB
namespace Go.Proofs.YtigjingielnaoaaDoor
set_option linter.unusedVariables false
set_option linter.unusedSimpArgs false
set_option linter.unusedSectionVars false
open Go.RowKit Go.Shelf
attribute [local go_sem] Oper.semAt_some
set_option linter.unusedVariables false

theorem indexC_yes (c : UInt8) (s : ByteArray) (w : World) (h : firstC c.toNat (bytesOf s) < s.size) : Calls Tryd.prog 81 #[.string s, .string { data := #[c] }] w fun e w' => e = .returned (.int .i64 (firstC c.toNat (bytesOf s) : Nat)) ∧ w = w' :=
  (indexC_any s c w).mono fun e w' ⟨h1, h2⟩ => ⟨by rw [h1, indexByte_c]; unfold bytesOf at h ⊢; rw [if_pos (by exact h)], h2⟩
theorem indexC_no (c : UInt8) (s : ByteArray) (w : World) (h : ¬ firstC c.toNat (bytesOf s) < s.size) : Calls Tryd.prog 81 #[.string s, .string { data := #[c] }] w fun e w' => e = .returned (.int .i64 (-1)) ∧ w = w' :=
  (indexC_any s c w).mono fun e w' ⟨h1, h2⟩ => ⟨by rw [h1, indexByte_c]; unfold bytesOf at h; rw [if_neg (by exact h)], h2⟩
/-- The parts of a text, as strings. -/
def partsC (c : UInt8) (s : ByteArray) : List ByteArray := (splitC c.toNat (bytesOf s)).map strOf
theorem partsC_first (c : UInt8) (s : ByteArray) (h : firstC c.toNat (bytesOf s) < s.size) : partsC c s = s.extract 0 (firstC c.toNat (bytesOf s)) :: partsC c (s.extract (firstC c.toNat (bytesOf s) + 1) s.size) := by
  unfold partsC
  rw [splitC_first c.toNat _ (by rw [length_bytesOf]; exact h), List.map_cons, ← strOf_take, bytesOf_extract, List.take_of_length_le (by rw [List.length_drop, length_bytesOf]; omega)]
theorem partsC_last (c : UInt8) (s : ByteArray) (h : ¬ firstC c.toNat (bytesOf s) < s.size) : partsC c s = [s] := by
  unfold partsC
  rw [splitC_last c.toNat _ (by rw [length_bytesOf]; exact h), List.map_cons, strOf_bytesOf]; rfl
/-- SplitSeq's iterator, closed over its three boxes. -/
theorem splitSeqC_any (c : UInt8) (s : ByteArray) (w : World) : Calls Tryd.prog 88 #[.string s, .string { data := #[c] }] w fun e w' =>
    e = .returned (.func (.func 127) #[] #[.pointer (some ⟨w.heap.size + 1, 0, none⟩), .pointer (some ⟨w.heap.size, 0, none⟩), .pointer (some ⟨w.heap.size + 2, 0, none⟩)]) ∧
    w' = ((w.alloc (.cells #[.string s] 9)).alloc (.cells #[.string { data := #[c] }] 9)).alloc (.cells #[.int .i64 0] 3) := by
  have h1 : Calls Tryd.prog 107 #[.string s, .string { data := #[c] }, .int .i64 0] w fun e w' =>
      e = .returned (.func (.func 127) #[] #[.pointer (some ⟨w.heap.size + 1, 0, none⟩), .pointer (some ⟨w.heap.size, 0, none⟩), .pointer (some ⟨w.heap.size + 2, 0, none⟩)]) ∧
      w' = ((w.alloc (.cells #[.string s] 9)).alloc (.cells #[.string { data := #[c] }] 9)).alloc (.cells #[.int .i64 0] 3) := by
    go_enter Tryd.func107, Tryd.ntmps107
    go_wp2
    go_ret
    exact ⟨rfl, rfl⟩
  go_enter Tryd.func88, Tryd.ntmps88
  go_wp2_with (go_at_call 107; refine h1.mono ?_; rintro e w' ⟨rfl, rfl⟩)
  go_ret
  exact ⟨rfl, rfl⟩
set_option maxRecDepth 100000 in
set_option maxHeartbeats 2000000 in
theorem splitC_seq (c : UInt8) (Bs Bq Bv : Nat) (s : ByteArray) (w : World) (hB : Blk w Bs [.string s] 9) (hQ : Blk w Bq [.string { data := #[c] }] 9) (hV : Blk w Bv [.int .i64 0] 3) (hne : Bq ≠ Bs ∧ Bv ≠ Bs) (hs : s.size ≤ 9223372036854775806) :
    SeqW Tryd.prog 127 #[.pointer (some ⟨Bq, 0, none⟩), .pointer (some ⟨Bs, 0, none⟩), .pointer (some ⟨Bv, 0, none⟩)] (fun x : Shs => #[Value.string x.1]) [Bs] [Bs, Bq, Bv] (fun xs => xs.map Subtype.val = partsC c s) (fun pre => pre.map Subtype.val <+: partsC c s) (partsC c s).length w := by
  intro l J Jx W hU hz hJ hJx hY h0
  have b1 : Blk W Bs [.string s] 9 := hB.upd hU (by simp)
  have b2 : Blk W Bq [.string { data := #[c] }] 9 := hQ.upd hU (by simp)
  have b3 : Blk W Bv [.int .i64 0] 3 := hV.upd hU (by simp)
  have HJ := Lib.hid hJ
  have HY := Lib.hid hY
  have HJ0 := Lib.hid h0
  clear hJ hY h0 hJx hU hz hB hQ hV
  have HB : Hid (Blk W Bs [.string s] 9 ∧ Blk W Bq [.string { data := #[c] }] 9 ∧ Blk W Bv [.int .i64 0] 3) := Lib.hid ⟨b1, b2, b3⟩
  have cq0 := b2.cell 0 rfl
  clear b1 b2 b3
  obtain ⟨hq1, hq2⟩ := hne
  have HN := Lib.hid hq1
  have HN2 := Lib.hid hq2
  clear hq1 hq2
  refine callsIn_of_wp Tryd.func127 rfl trivial ?_ rfl
  simp only [Tryd.ntmps127, List.size_toArray, List.length_cons, List.length_nil, Nat.reduceAdd, Nat.reduceSub, Array.replicate_succ, Array.replicate_zero, List.push_toArray, List.append_toArray, List.nil_append, List.cons_append]
  gi_wp2
  clear cq0
  gi_loopg [] s.size (fun g wr => ∃ r : ByteArray, ∃ pre : List Shs, g = r.size ∧ r.size ≤ s.size ∧ Hid (partsC c s = pre.map Subtype.val ++ partsC c r) ∧ Hid (J pre wr) ∧ Hid (Blk wr Bs [.string r] 9 ∧ Blk wr Bq [.string { data := #[c] }] 9 ∧ Blk wr Bv [.int .i64 0] 3))
  case atStart => exact ⟨s, [], rfl, Nat.le_refl _, Lib.hid rfl, HJ0, HB⟩
  case round =>
    obtain ⟨r, pre, rfl, hrs, HP, HJp, HBk⟩ := hrel
    clear HB HJ0
    have hr1 : r.size ≤ 9223372036854775806 := by omega
    have c1 := HBk.out.1.cell 0 rfl
    have c2 := HBk.out.2.1.cell 0 rfl
    have c3 := HBk.out.2.2.cell 0 rfl
    have hf1 := HBk.out.1.frz 0
    have hlt : Bs < wr.heap.size := HBk.out.1.lt
    by_cases hc : firstC c.toNat (bytesOf r) < r.size
    · have HIX := Lib.hid (fun w => indexC_yes c r w hc)
      have HPF := Lib.hid (partsC_first c r hc)
      generalize firstC c.toNat (bytesOf r) = f at *
      have hlen : pre.length < (partsC c s).length := by rw [HP.out, HPF.out, List.length_append, List.length_map, List.length_cons]; omega
      have hxf0 : (r.extract 0 f).size ≤ 9223372036854775807 := by rw [ByteArray.size_extract]; omega
      obtain ⟨fn, tmps, assign, body, hy, hRd⟩ := HY.out pre ⟨r.extract 0 f, hxf0⟩ wr HJp.out hlen (by intro q hq; simp at hq; subst hq; exact hlt)
      clear hlen
      have HLT := Lib.hid hlt
      clear hlt
      gi_wp2_with fail
      refine ⟨trivial, (callsIn_wide.2 (HIX.out _)).mono ?_⟩
      rintro e w2 ⟨rfl, rfl⟩
      gi_wp2
      refine hRd.mono ?_
      rintro e W3 (⟨rfl, hJ3, hk3⟩ | ⟨rfl, hJx3⟩)
      · have d1 : Blk W3 Bs [.string r] 9 := (hk3.2 Bs (by simp)).trans HBk.out.1
        have d2 : Blk W3 Bq [.string { data := #[c] }] 9 := (hk3.2 Bq (by simp)).trans HBk.out.2.1
        have d3 : Blk W3 Bv [.int .i64 0] 3 := (hk3.2 Bv (by simp)).trans HBk.out.2.2
        have hx1 := d1.cell 0 rfl
        have hx2 := d2.cell 0 rfl
        have hxf := d1.frz 0
        have HD : Hid (Blk W3 Bs [.string r] 9 ∧ Blk W3 Bq [.string { data := #[c] }] 9 ∧ Blk W3 Bv [.int .i64 0] 3) := Lib.hid ⟨d1, d2, d3⟩
        have HJ3 := Lib.hid hJ3
        clear d1 d2 d3 hk3 hJ3 c1 c2 c3 hf1 hy HBk
        have hsz : (r.extract (f + 1) r.size).size = r.size - (f + 1) := by rw [ByteArray.size_extract]; omega
        have HSZ := Lib.hid hsz
        clear hsz
        gi_wp2
        gi_roundg (r.size - (f + 1))
        all_goals first
          | omega
          | (refine ⟨r.extract (f + 1) r.size, pre ++ [⟨r.extract 0 f, hxf0⟩], HSZ.out.symm, by rw [HSZ.out]; omega, Lib.hid (by rw [HP.out, HPF.out]; simp), Lib.hid (HJ.out _ _ _ HJ3.out ?_), Lib.hid ⟨?_, ?_, ?_⟩⟩
             · exact own2_of ((Upd.refl [Bs] _).setCell (.inl (by simp)) _) (fun k hk => hk) (fun k hk => by simp at hk; subst hk; exact HD.out.1.cellsOnly)
             · exact HD.out.1.set 0 _
             · exact HD.out.2.1.setFar _ HN.out
             · exact HD.out.2.2.setFar _ HN2.out)
      · gi_wp2
        refine bodyPost_ret (results_none rfl _ _ _) rfl ?_
        exact ⟨⟨_, rfl⟩, .inr ⟨_, by rw [HP.out, HPF.out]; exact ⟨partsC c (r.extract (f + 1) r.size), by simp⟩, hJx3⟩⟩
    · have HIX := Lib.hid (fun w => indexC_no c r w hc)
      have HPF := Lib.hid (partsC_last c r hc)
      have hlen : pre.length < (partsC c s).length := by rw [HP.out, HPF.out, List.length_append, List.length_map, List.length_cons]; omega
      obtain ⟨fn, tmps, assign, body, hy, hRd⟩ := HY.out pre ⟨r, by omega⟩ wr HJp.out hlen (by intro q hq; simp at hq; subst hq; exact hlt)
      clear hlen hc
      have HLT := Lib.hid hlt
      clear hlt
      gi_wp2_with fail
      refine ⟨trivial, (callsIn_wide.2 (HIX.out _)).mono ?_⟩
      rintro e w2 ⟨rfl, rfl⟩
      gi_wp2
      refine hRd.mono ?_
      rintro e W3 (⟨rfl, hJ3, hk3⟩ | ⟨rfl, hJx3⟩)
      · gi_wp2
        go_end0
        exact ⟨⟨_, rfl⟩, .inl ⟨_, by rw [HP.out, HPF.out]; simp, hJ3⟩⟩
      · gi_wp2
        go_end0
        exact ⟨⟨_, rfl⟩, .inr ⟨_, by rw [HP.out, HPF.out]; simp, hJx3⟩⟩
end Go.Proofs.YtigjingielnaoaaDoor
namespace Go.Proofs.YtigjingielnaoaaDoor
set_option linter.unusedVariables false
set_option linter.unusedSimpArgs false
set_option linter.unusedSectionVars false
open Go.RowKit

def noDefers (ops : Array Oper) : Bool := ops.all fun o => match o.op with | .defer _ => false | _ => true
theorem noDefers_spec {ops : Array Oper} (h : noDefers ops = true) {i : Nat} {o : Oper} (hi : ops[i]? = some o) : ∀ c, o.op ≠ .defer c := by
  intro c e
  unfold noDefers at h
  rw [Array.all_eq_true] at h
  obtain ⟨hl, hg⟩ := Array.getElem?_eq_some_iff.1 hi
  have := h i hl
  rw [hg, e] at this
  cases this
theorem rowsIn_of {n l : Nat} {P : Program} {row : String} {args : Array Value} {w : World} {R : Value → World → Prop} (h : Rows P row args w R) : RowsIn (Fence.wide.inRound l) n P row args w R := by
  intro c cs _
  obtain ⟨v, w', hr, hs⟩ := h c cs
  refine ⟨v, w', hr, ?_⟩
  rw [fenced_inRound]
  exact stepsIn_wide.2 hs
theorem opIn_of {n l : Nat} {P : Program} {o : Oper} {a : Act} {w : World} {K : Act → World → Prop} {Q : Exit → Act → World → Prop} (hd : ∀ c, o.op ≠ .defer c) (h : o.wp P a w K Q) : o.wpIn (Fence.wide.inRound l) n P a w K Q := by
  refine ⟨fun _ _ => trivial, ?_⟩
  rw [Oper.semAt_eq _ _ _ hd]
  unfold Oper.wp at h
  generalize (execOp a.eval o).run P w = r at h ⊢
  cases r with
  | ok x w' =>
    cases x with
    | value v => exact h
    | skip => exact h
    | defer d => exact h
    | enter f args => exact ⟨fun e => by simp [Fence.inRound, Fence.wide] at e, CallsIn.inRound l ((callsIn_wide.2 h).mono fun e w'' he => by cases e <;> exact he)⟩
    | row r args => exact ⟨fun e => by simp [Fence.inRound, Fence.wide] at e, rowsIn_of h⟩
    | _ => exact h.elim
  | halt x w' => cases x <;> exact h
theorem wpOpIn_of {n l : Nat} {P : Program} {ops : Array Oper} {Q : Exit → Act → World → Prop} (hno : ¬ LetsOut Q) (hd : noDefers ops = true) {i : Nat} {K : Act → World → Prop} {a : Act} {w : World} (h : wpOp P ops Q i K a w) : wpOpIn (Fence.wide.inRound l) n P ops Q i K a w := by
  unfold wpOp at h
  unfold wpOpIn
  cases hi : ops[i]? with
  | none => rw [hi] at h; exact h
  | some o =>
    rw [hi] at h
    simp only at h ⊢
    by_cases hw : Region.wanted o (yielded ops a.tmps) = true
    · rw [if_pos hw] at h ⊢
      rcases h with h | h
      · exact opIn_of (noDefers_spec hd hi) h
      · exact absurd h.2 hno
    · rw [if_neg hw] at h ⊢
      exact ⟨fun _ _ => trivial, h⟩
theorem wpAnyIn_of {n l : Nat} {P : Program} {md : Region.Mode} {ops : Array Oper} {Q : Exit → Act → World → Prop} (hno : ¬ LetsOut Q) (hd : noDefers ops = true) : ∀ (fuel : Nat) (listed : Array Bool) (a : Act) (w : World), wpAny P md ops Q fuel listed a w → wpAnyIn (Fence.wide.inRound l) n P md ops Q fuel listed a w
  | 0, _, _, _, h => h
  | fuel + 1, listed, a, w, h => ⟨h.1, fun i hi => wpOpIn_mono (fun a' w' h' => wpAnyIn_of hno hd fuel _ a' w' h') (wpOpIn_of hno hd (h.2 i hi))⟩
theorem opIn_calm {n l : Nat} {P : Program} {o : Oper} {a : Act} {w : World} {K K' : Act → World → Prop} {Q : Exit → Act → World → Prop} (hd : ∀ c, o.op ≠ .defer c) (h : o.wp P a w K (Exit.then K' fun _ _ _ => False)) : o.wpIn (Fence.wide.inRound l) n P a w K Q := by
  refine ⟨fun _ _ => trivial, ?_⟩
  rw [Oper.semAt_eq _ _ _ hd]
  unfold Oper.wp at h
  generalize (execOp a.eval o).run P w = r at h ⊢
  have hno : ¬ LetsOut (Exit.then K' fun _ _ _ => False) := by rintro ⟨a, w, h⟩; exact h
  cases r with
  | ok x w' =>
    cases x with
    | value v => exact h
    | skip => exact h
    | defer d => exact h
    | enter f args =>
      exact ⟨fun e => by simp [Fence.inRound, Fence.wide] at e, CallsIn.inRound l ((callsIn_wide.2 h).mono fun e w'' he => by
        cases e with
        | returned v => exact he
        | panicked ch => exact False.elim he
        | outgrown => exact absurd he hno)⟩
    | row r args => exact ⟨fun e => by simp [Fence.inRound, Fence.wide] at e, rowsIn_of h⟩
    | _ => exact h.elim
  | halt x w' => cases x <;> exact False.elim h
theorem listIn_calm {n l : Nat} {P : Program} {ops : Array Oper} {Q : Exit → Act → World → Prop} {K' : Act → World → Prop} (hK : ∀ a w, K' a w → Q .normal a w) : ∀ (os : List Oper), (os.all fun o => match o.op with | .defer _ => false | _ => true) = true → ∀ (a : Act) (w : World), wpList P ops (Exit.then K' fun _ _ _ => False) os a w → wpListIn (Fence.wide.inRound l) n P ops Q os a w
  | [], _, _, _, h => hK _ _ h
  | o :: os, hd, a, w, h => by
    rw [List.all_cons, Bool.and_eq_true] at hd
    unfold wpList at h
    unfold wpListIn
    by_cases hw : Region.wanted o (yielded ops a.tmps) = true
    · rw [if_pos hw] at h ⊢
      rcases h with h | h
      · exact Oper.wpIn_mono (fun a' w' h' => listIn_calm hK os hd.2 a' w' h') (opIn_calm (fun c e => by rw [e] at hd; cases hd.1) h)
      · obtain ⟨_, a, w, h⟩ := h; exact h.elim
    · rw [if_neg hw] at h ⊢
      exact ⟨fun _ _ => trivial, listIn_calm hK os hd.2 _ _ h⟩
/-- The rest of a region, in a round: as in a plain walk, where it does not panic. -/
theorem listIn_of {n l : Nat} {P : Program} {ops : Array Oper} {Q : Exit → Act → World → Prop} (os : List Oper) (a : Act) (w : World) (hd : (os.all fun o => match o.op with | .defer _ => false | _ => true) = true)
    (h : ∀ K : Act → World → Prop, (∀ a w, Q .normal a w → K a w) → wpList P ops (Exit.then K fun _ _ _ => False) os a w) : wpListIn (Fence.wide.inRound l) n P ops Q os a w :=
  listIn_calm (K' := fun a w => Q .normal a w) (fun _ _ h => h) os hd a w (h _ fun _ _ h => h)
/-- **A region that draws its order, in a round: as in a plain walk, where it does not panic.** -/
theorem regionIn_held {n l id : Nat} {P : Program} {ops : Array Oper} {Q : Exit → Act → World → Prop} {S : World → Prop} {a : Act} {w : World} (hm : P.follows .mixedOrders = true) (hd : noDefers ops = true) (hS : S w.drew)
    (h : S w.drew → ∀ K : Act → World → Prop, (∀ a w, Q .normal a w → K a w) → wpAnyH P .any ops (Exit.then K fun _ _ _ => False) S ops.size (Array.replicate ops.size false) a w.drew) : (Code.region id ops true).wpIn (Fence.wide.inRound l) n P Q a w := by
  refine wpIn_mono (wpIn_region_any hm (wpAnyIn_of ?_ hd _ _ _ _ (wpAny_of_held _ _ _ _ (h hS (fun a w => Q .normal a w) fun _ _ h => h)))) ?_
  · rintro ⟨a, w, h⟩
    exact h
  · intro e a w h
    cases e <;> first | exact h | exact h.elim
end Go.Proofs.YtigjingielnaoaaDoor

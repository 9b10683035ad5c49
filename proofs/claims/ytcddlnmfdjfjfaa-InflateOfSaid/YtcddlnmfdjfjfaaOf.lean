/- Package inflate: Of: plain, and its walk. -/
import Derived.Test.YtcddlnmfdjfjfaaCaught
import Derived.Lib.MinMax
namespace Go.Proofs.Ytcddlnmfdjfjfaa
open Go.RowKit
set_option linter.unusedVariables false

def ofNext (k : List Nat → Nat → Except Nat (List Nat × Nat)) (r : (Bool × List Nat) × Nat) : Except Nat (List Nat × Nat) := if r.1.1 = true then .ok (r.1.2, r.2) else k r.1.2 r.2
def ofLoop (s : ByteArray) (most F : Nat) : Nat → List Nat → Nat → Except Nat (List Nat × Nat)
  | 0, _, _ => .error 0
  | g + 1, out, a => blockP s most F out a >>= ofNext (ofLoop s most F g)
def capI (most : Int) : Nat := (max 0 (min most 65000)).toNat
def ofP (s : ByteArray) (most : Int) : Except Nat (List Nat × Nat) := ofLoop s (capI most) (8 * s.size + 1) (8 * s.size + 1) [] 0
def ofVal : Except Nat (List Nat × Nat) → Value
  | .ok (out, a) => .tuple #[.string (strOf out), .int .i64 ((a + 7) / 8 : Nat), .int .i64 0]
  | .error c => .tuple #[.string ⟨#[]⟩, .int .i64 0, .int .i64 (c : Nat)]

/-- From the loop's start on: nothing that was there ahead of the call turned. -/
theorem of_upd {w w3 w' : World} {bw x b : Nat} {v0 : Value} (hbw : bw = w.heap.size) (h0 : Upd [] w w3) (h : Upd (stFp x b v0) w3 w') (hfp : ∀ k ∈ stFp x b v0, bw < k) : Upd [] w w' :=
  h0.trans h fun k hk => .inr (by have := hfp k hk; omega)
/-- A part of a function that defers, which doesn't panic. -/
theorem wp_calm {P : Program} {c : Code} {K : Act → World → Prop} {Q : Exit → Act → World → Prop} {a : Act} {w : World} (h : c.wp P (Exit.then K fun _ _ _ => False) a w) : c.wp P (Exit.then K Q) a w :=
  Code.wp_mono (fun e a w h => by cases e <;> first | exact h | exact h.elim) h
theorem block_ok {x b F : Nat} {v : Value} {w : World} {s : ByteArray} {a : Nat} {out : List Nat} {most : Nat} {l : Bool} {out' : List Nat} {a' : Nat} (h : StAt w x b v s a out most) (hs : s.size ≤ 1099511627776) (hF : 8 * s.size < F) (hc : blockP s most F out a = .ok ((l, out'), a')) :
    Calls Try.prog 52 #[.pointer (some ⟨x, 0, none⟩)] w fun e w' => e = .returned (.bool l) ∧ ∃ v', StAt w' x b v' s a' out' most ∧ Upd (stFp x b v) w w' ∧ Later w v v' := by
  have := block_any x b F v w s a out most h hs hF
  rwa [hc] at this
theorem block_err {x b F : Nat} {v : Value} {w : World} {s : ByteArray} {a : Nat} {out : List Nat} {most c : Nat} (h : StAt w x b v s a out most) (hs : s.size ≤ 1099511627776) (hF : 8 * s.size < F) (hc : blockP s most F out a = .error c) :
    Calls Try.prog 52 #[.pointer (some ⟨x, 0, none⟩)] w fun e w' => e = .panicked [{ v := .iface 67 (.int .i64 (c : Nat)), recovered := false }] ∧ Upd (stFp x b v) w w' := by
  have := block_any x b F v w s a out most h hs hF
  rwa [hc] at this

set_option maxRecDepth 100000 in
set_option maxHeartbeats 6400000 in
theorem of_any (s : ByteArray) (most : Int) (w : World) (hs : s.size ≤ 1099511627776) :
    Calls Try.prog 38 #[.string s, .int .i64 most] w fun e w' => e = .returned (ofVal (ofP s most)) ∧ Upd [] w w' := by
  have HS := Lib.hid (show ofP s most = ofLoop s (capI most) (8 * s.size + 1) (8 * s.size + 1) [] 0 by rfl)
  generalize ofP s most = CP at *
  obtain ⟨M, hM⟩ : ∃ M, M = capI most := ⟨_, rfl⟩
  have hM65 : M ≤ 65000 := by rw [hM]; unfold capI; omega
  have hMc : max 0 (min most 65000) = (M : Int) := by rw [hM]; unfold capI; omega
  rw [← hM] at HS
  clear hM
  go_enter_defers Try.func38, Try.ntmps38
  go_wp2_with fail
  have hU1 : Upd [] w (w.alloc (Obj.cells #[.int .i64 0] 67)) := (Upd.refl [] w).alloc _
  have hW1 := Blk.new w [.int .i64 0] 67
  have hs1 : (w.alloc (Obj.cells #[.int .i64 0] 67)).heap.size = w.heap.size + 1 := World.size_alloc _ _
  generalize w.alloc (Obj.cells #[.int .i64 0] 67) = w1 at *
  refine (read_any s w1).mono ?_
  rintro e w2 ⟨rfl, rfl⟩
  go_wp2
  obtain ⟨w3, hw3⟩ : ∃ w3, w3 = (w1.alloc (Obj.cells #[.string s, .int .i64 0, .bool false] 89)).alloc (Obj.cells #[.pointer (some ⟨w.heap.size + 1, 0, none⟩), .slice none 0 0, .int .i64 (M : Nat)] 100) := ⟨_, rfl⟩
  have hU13 : Upd [] w1 w3 := by rw [hw3]; exact ((Upd.refl [] w1).alloc _).alloc _
  have hW3 : Blk w3 w.heap.size [.int .i64 0] 67 := hW1.upd hU13 (by simp)
  have hS3 : StAt w3 (w.heap.size + 1 + 1) (w.heap.size + 1) (.slice none 0 0) s 0 [] M := by
    have hr := rd_new w1 s 89
    have hr3 := hr.upd ((Upd.refl [] _).alloc (Obj.cells #[.pointer (some ⟨w.heap.size + 1, 0, none⟩), .slice none 0 0, .int .i64 (M : Nat)] 100)) (by simp)
    have hb := Blk.new (w1.alloc (Obj.cells #[.string s, .int .i64 0, .bool false] 89)) [.pointer (some ⟨w.heap.size + 1, 0, none⟩), .slice none 0 0, .int .i64 (M : Nat)] 100
    rw [World.size_alloc, hs1] at hb
    rw [hs1] at hr3
    rw [hw3]
    exact ⟨hb, Row.nil _ _ _, hr3, by simp [Value.ownBlock], by simp [Value.ownBlock], by omega, by simp, hM65, by simp⟩
  rw [← hw3]
  have hU3 := hU1.then hU13
  have hlt3 := hW3.lt
  clear hw3 hU13 hU1 hW1 hs1
  have HU := Lib.hid hU3
  have hfp : ∀ k ∈ stFp (w.heap.size + 1 + 1) (w.heap.size + 1) (.slice none 0 0), w.heap.size < k := by intro k hk; simp [stFp, Value.ownBlock] at hk; omega
  clear hU3
  obtain ⟨bw, hbw⟩ : ∃ bw, bw = w.heap.size := ⟨_, rfl⟩
  rw [← hbw] at hW3 hS3 hfp hlt3 ⊢
  have HBW := Lib.hid hbw
  clear hbw
  go_loopg [] (8 * s.size + 1) (fun gg wr => ∃ g out a v, gg = g ∧ Hid (CP = ofLoop s M (8 * s.size + 1) g out a) ∧ 8 * s.size < g + a ∧ SymsRel w3 wr (bw + 1 + 1) (bw + 1) (.slice none 0 0) v s a out M ∧ Blk wr bw [.int .i64 0] 67)
  case atStart => exact ⟨_, [], 0, _, rfl, HS, by omega, ⟨hS3, .refl _ _, .refl _ _⟩, hW3⟩
  case round =>
    obtain ⟨g, out, a, v, hgg, HE, hg, hSt, hW⟩ := hrel
    have hrd := hSt.1.rd.2
    clear HS hW3 hS3
    obtain ⟨g, rfl⟩ : ∃ g', g = g' + 1 := ⟨g - 1, by omega⟩
    subst hgg
    have hE : CP = (blockP s M (8 * s.size + 1) out a >>= ofNext (ofLoop s M (8 * s.size + 1) g)) := HE.out
    clear HE
    cases hb : blockP s M (8 * s.size + 1) out a with
    | error c =>
      have HE := Lib.hid (show CP = .error c by rw [hE, hb]; rfl)
      clear hE
      go_wp2_with fail
      refine (block_err hSt.1 hs (by omega) hb).mono ?_
      rintro e w4 ⟨rfl, hU4⟩
      have hne := hSt.2.2.ne hlt3 (show (Value.slice none 0 0).ownBlock ≠ some bw by simp [Value.ownBlock])
      have hW4 := hW.upd hU4 (by simp only [stFp, List.mem_cons, Option.mem_toList]; rintro (h | h | h) <;> first | omega | exact hne h)
      have hUw4 := of_upd HBW.out HU.out (st_trans hSt.2.1 hSt.2.2 hU4) hfp
      have hx := hW4.cell 0 rfl
      have hz := hW4.frz 0
      have HBL : w.heap.size ≤ bw := by rw [HBW.out]; exact Nat.le_refl _
      refine leaves_cons (f := 51) (args := #[.pointer (some ⟨bw, 0, none⟩)]) (by simp) (by simp [go_sem]) ?_
      refine (caught_panicking ⟨bw, 0, none⟩ _ (c : Nat) [] w4 hx hz).mono ?_
      rintro e u' w'' ⟨rfl, rfl, rfl⟩
      have hcell : (w4.setCell ⟨bw, 0, none⟩ (.int .i64 (c : Nat))).cell? ⟨bw, 0, none⟩ = some (.int .i64 (c : Nat)) := (hW4.set 0 (.int .i64 (c : Nat))).cell 0 rfl
      simp [Leaves, settle, results, Try.results38, go_sem, hcell]
      rw [HE.out]
      exact ⟨rfl, hUw4.setCell (.inr HBL) _⟩
    | ok q =>
      obtain ⟨⟨l, o⟩, a5⟩ := q
      have hadv := blockP_adv hb
      have hE2 : CP = if l = true then .ok (o, a5) else ofLoop s M (8 * s.size + 1) g o a5 := by rw [hE, hb]; rfl
      clear hE
      cases l with
      | true =>
        have HE := Lib.hid (show CP = .ok (o, a5) by rw [hE2]; rfl)
        clear hE2
        go_wp2_with fail
        refine (block_ok hSt.1 hs (by omega) hb).mono ?_
        rintro e w4 ⟨rfl, v4, hS4, hU4, hT4⟩
        have hne := hSt.2.2.ne hlt3 (show (Value.slice none 0 0).ownBlock ≠ some bw by simp [Value.ownBlock])
        have hW4 := hW.upd hU4 (by simp only [stFp, List.mem_cons, Option.mem_toList]; rintro (h | h | h) <;> first | omega | exact hne h)
        have hUw4 := of_upd HBW.out HU.out (st_trans hSt.2.1 hSt.2.2 hU4) hfp
        have HBL : w.heap.size ≤ bw := by rw [HBW.out]; exact Nat.le_refl _
        have hx := hW4.cell 0 rfl
        have hz := hW4.frz 0
        have hc0 := hS4.blk.cell 0 rfl
        have hc1 := hS4.blk.cell 1 rfl
        have hcv := run_conv_row (P := Try.prog) w4.drew 23 9 5 Try.underlying23 Try.underlying5 Try.underlying9 (v := v4) (n := o.length) (l := o) hS4.row.drew
        have HT := Lib.hid (used_any (bw + 1) w4.drew _ s a5 false hS4.rd hs)
        go_wp2
        refine wp_calm ?_
        go_region_law ((go_simp; go_at_call 53; refine HT.out.mono ?_; rintro e w5 ⟨rfl, rfl⟩))
        all_goals go_wp2
        all_goals (
          have hcell : (w4.setCell ⟨bw, 0, none⟩ (.int .i64 0)).cell? ⟨bw, 0, none⟩ = some (.int .i64 0) := (hW4.set 0 (.int .i64 0)).cell 0 rfl
          refine leaves_cons (f := 51) (args := #[.pointer (some ⟨bw, 0, none⟩)]) (by simp) (by simp [go_sem]) ?_
          refine (caught_idle ⟨bw, 0, none⟩ _).mono ?_
          rintro e u' w'' ⟨rfl, rfl, rfl⟩
          simp [Leaves, settle, results, Try.results38, go_sem, hcell]
          rw [HE.out]
          exact ⟨rfl, (hUw4.setCell (.inr HBL) _).drew⟩)
      | false =>
        have HE := Lib.hid (show CP = ofLoop s M (8 * s.size + 1) g o a5 by rw [hE2]; rfl)
        clear hE2
        go_wp2_with fail
        refine (block_ok hSt.1 hs (by omega) hb).mono ?_
        rintro e w4 ⟨rfl, v4, hS4, hU4, hT4⟩
        have hne := hSt.2.2.ne hlt3 (show (Value.slice none 0 0).ownBlock ≠ some bw by simp [Value.ownBlock])
        have hW4 := hW.upd hU4 (by simp only [stFp, List.mem_cons, Option.mem_toList]; rintro (h | h | h) <;> first | omega | exact hne h)
        go_wp2
        go_roundg g
        · exact ⟨g, o, a5, v4, rfl, HE, by omega, hSt.next hS4 hU4 hT4, hW4⟩
        · omega
end Go.Proofs.Ytcddlnmfdjfjfaa

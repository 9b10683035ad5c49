/- Package inflate: Tables (defers, recovers): its walk. -/
import Derived.Test.YtcddlnmfdjfjfaaEnds4
namespace Go.Proofs.Ytcddlnmfdjfjfaa
open Go.RowKit
set_option linter.unusedVariables false

set_option maxRecDepth 100000 in
set_option maxHeartbeats 1600000 in
theorem shut_fine (pw pa pb : Addr) (w : World) (hw : w.cell? pw = some (.int .i64 0)) :
    CallsD Try.prog 60 #[.pointer (some pw), .pointer (some pa), .pointer (some pb)] .returning w fun e u' w' => u' = .returning ∧ (e = .returned (.tuple #[]) ∧ w = w') := by
  go_enter_d Try.func60, Try.ntmps60
  go_wp2
  go_returns
  exact ⟨rfl, rfl⟩
set_option maxRecDepth 100000 in
set_option maxHeartbeats 1600000 in
theorem shut_wrong (pw pa pb : Addr) (c : Nat) (va vb : Value) (w : World) (hc : c ≠ 0) (hw : w.cell? pw = some (.int .i64 (c : Nat))) (ha : w.cell? pa = some va) (fa : w.frozen? pa = false) (hb : (w.setCell pa (.slice none 0 0)).cell? pb = some vb) (fb : w.frozen? pb = false) :
    CallsD Try.prog 60 #[.pointer (some pw), .pointer (some pa), .pointer (some pb)] .returning w fun e u' w' => u' = .returning ∧ (e = .returned (.tuple #[]) ∧ (w.setCell pa (.slice none 0 0)).setCell pb (.slice none 0 0) = w') := by
  have t1 : ((c : Int) != 0) = true := by simp; omega
  have t2 : (c != 0) = true := by simp; omega
  go_enter_d Try.func60, Try.ntmps60
  go_wp2
  go_returns
  exact ⟨rfl, rfl⟩

theorem tabs_start {b : Nat} {w w3 : World} {s : ByteArray} {a : Nat} (hR : RdAt w b 89 s a false) (hw3 : w3 = ((w.alloc (Obj.cells #[.slice none 0 0] 41)).alloc (Obj.cells #[.slice none 0 0] 41)).alloc (Obj.cells #[.int .i64 0] 67)) :
    Upd [] w w3 ∧ Blk w3 w.heap.size [.slice none 0 0] 41 ∧ Blk w3 (w.heap.size + 1) [.slice none 0 0] 41 ∧ Blk w3 (w.heap.size + 1 + 1) [.int .i64 0] 67 ∧ b < w.heap.size := by
  have h1 := Blk.new w [.slice none 0 0] 41
  have h2 := Blk.new (w.alloc (Obj.cells #[.slice none 0 0] 41)) [.slice none 0 0] 41
  have h3 := Blk.new ((w.alloc (Obj.cells #[.slice none 0 0] 41)).alloc (Obj.cells #[.slice none 0 0] 41)) [.int .i64 0] 67
  rw [World.size_alloc] at h2
  rw [World.size_alloc, World.size_alloc] at h3
  rw [hw3]
  exact ⟨(((Upd.refl [] w).alloc _).alloc _).alloc _, (h1.alloc _).alloc _, h2.alloc _, h3, hR.1.lt⟩
set_option maxRecDepth 100000 in
set_option maxHeartbeats 6400000 in
theorem tabs_err {b : Nat} {w : World} {s : ByteArray} {a c : Nat} (hR : RdAt w b 89 s a false) (hs : s.size ≤ 1099511627776) (h : tablesP s a = .error c) :
    Calls Try.prog 42 #[.pointer (some ⟨b, 0, none⟩)] w fun e w' => e = .returned (.tuple #[.slice none 0 0, .slice none 0 0, .int .i64 (c : Nat)]) ∧ Upd [b] w w' := by
  have hmf : ∀ (fn : Fn) (first cap : Array Value) (w : World), (Instr.makeFunc fn first cap).run Try.prog w = .ok (.func fn first cap) w := fun _ _ _ _ => rfl
  have hce := tablesP_er c h
  go_enter_defers Try.func42, Try.ntmps42
  go_wp2_with fail
  obtain ⟨w3, hw3⟩ : ∃ w3, w3 = ((w.alloc (Obj.cells #[.slice none 0 0] 41)).alloc (Obj.cells #[.slice none 0 0] 41)).alloc (Obj.cells #[.int .i64 0] 67) := ⟨_, rfl⟩
  obtain ⟨hU3, hBa, hBb, hBw, hblt⟩ := tabs_start hR hw3
  rw [← hw3]
  have hR3 := hR.upd hU3 (by simp)
  clear hw3
  obtain ⟨B, hB⟩ : ∃ B, B = w.heap.size := ⟨_, rfl⟩
  rw [← hB] at hBa hBb hBw hblt ⊢
  have HB := Lib.hid hB
  clear hB
  refine (tables_err hR3 hs h).mono ?_
  rintro e w4 ⟨rfl, hU4⟩
  have ha4 := hBa.upd hU4 (by simp; omega)
  have hb4 := hBb.upd hU4 (by simp; omega)
  have hw4 := hBw.upd hU4 (by simp; omega)
  have hUw4 : Upd [b] w w4 := (hU3.mono (by simp)).then hU4
  have hx := hw4.cell 0 rfl
  have hz := hw4.frz 0
  refine leaves_cons (f := 51) (args := #[.pointer (some ⟨B + 1 + 1, 0, none⟩)]) (by simp) (by simp [go_sem]) ?_
  refine (caught_panicking ⟨B + 1 + 1, 0, none⟩ _ (c : Nat) [] w4 hx hz).mono ?_
  rintro e u' w5 ⟨rfl, rfl, rfl⟩
  have hw5 := hw4.set 0 (.int .i64 (c : Nat))
  have ha5 := ha4.setFar (a := ⟨B + 1 + 1, 0, none⟩) (.int .i64 (c : Nat)) (by simp; omega)
  have hb5 := hb4.setFar (a := ⟨B + 1 + 1, 0, none⟩) (.int .i64 (c : Nat)) (by simp)
  have hUw5 := hUw4.setCell (p := ⟨B + 1 + 1, 0, none⟩) (.inr (by rw [← HB.out]; simp; omega)) (.int .i64 (c : Nat))
  have hw6 := (hw5.setFar (a := ⟨B, 0, none⟩) (.slice none 0 0) (by simp; omega)).setFar (a := ⟨B + 1, 0, none⟩) (.slice none 0 0) (by simp)
  have ha6 := (ha5.set 0 (.slice none 0 0)).setFar (a := ⟨B + 1, 0, none⟩) (.slice none 0 0) (by simp)
  have hb6 := (hb5.setFar (a := ⟨B, 0, none⟩) (.slice none 0 0) (by simp)).set 0 (.slice none 0 0)
  have hUw6 := (hUw5.setCell (p := ⟨B, 0, none⟩) (.inr (by rw [← HB.out]; exact Nat.le_refl _)) (.slice none 0 0)).setCell (p := ⟨B + 1, 0, none⟩) (.inr (by rw [← HB.out]; simp)) (.slice none 0 0)
  have q1 := ha6.cell 0 rfl
  have q2 := hb6.cell 0 rfl
  have q3 := hw6.cell 0 rfl
  show Leaves _ _ _ _ _ FrameMode.returning _
  refine leaves_cons (f := 60) (args := #[.pointer (some ⟨B + 1 + 1, 0, none⟩), .pointer (some ⟨B, 0, none⟩), .pointer (some ⟨B + 1, 0, none⟩)]) (by simp) (by simp [go_sem]) ?_
  refine (shut_wrong ⟨B + 1 + 1, 0, none⟩ ⟨B, 0, none⟩ ⟨B + 1, 0, none⟩ c _ _ _ (by omega) (hw5.cell 0 rfl) (ha5.cell 0 rfl) (ha5.frz 0) ((hb5.setFar (a := ⟨B, 0, none⟩) (.slice none 0 0) (by simp)).cell 0 rfl) (hb5.frz 0)).mono ?_
  rintro e u' w7 ⟨rfl, rfl, rfl⟩
  show Leaves _ _ _ _ _ FrameMode.returning _
  simp [Leaves, results, Try.results42, go_sem, q1, q2, q3]
  exact hUw6

set_option maxRecDepth 100000 in
set_option maxHeartbeats 6400000 in
theorem tabs_ok {b : Nat} {w : World} {s : ByteArray} {a a' : Nat} {A1 B1 : List Nat} (hR : RdAt w b 89 s a false) (hs : s.size ≤ 1099511627776) (h : tablesP s a = .ok ((A1, B1), a')) :
    Calls Try.prog 42 #[.pointer (some ⟨b, 0, none⟩)] w fun e w' => ∃ g cap, e = .returned (.tuple #[.slice (some ⟨g, 0, none⟩) A1.length cap, .slice (some ⟨g, A1.length, none⟩) B1.length (cap - A1.length), .int .i64 0]) ∧
      IntsIn w' (some ⟨g, 0, none⟩) A1.length (ints A1) ∧ IntsIn w' (some ⟨g, A1.length, none⟩) B1.length (ints B1) ∧ Upd [b] w w' ∧ w.heap.size ≤ g := by
  have hmf : ∀ (fn : Fn) (first cap : Array Value) (w : World), (Instr.makeFunc fn first cap).run Try.prog w = .ok (.func fn first cap) w := fun _ _ _ _ => rfl
  go_enter_defers Try.func42, Try.ntmps42
  go_wp2_with fail
  obtain ⟨w3, hw3⟩ : ∃ w3, w3 = ((w.alloc (Obj.cells #[.slice none 0 0] 41)).alloc (Obj.cells #[.slice none 0 0] 41)).alloc (Obj.cells #[.int .i64 0] 67) := ⟨_, rfl⟩
  obtain ⟨hU3, hBa, hBb, hBw, hblt⟩ := tabs_start hR hw3
  rw [← hw3]
  have hR3 := hR.upd hU3 (by simp)
  clear hw3
  obtain ⟨B, hB⟩ : ∃ B, B = w.heap.size := ⟨_, rfl⟩
  have hlw3 := hBw.lt
  rw [← hB] at hBa hBb hBw hblt hlw3 ⊢
  have HB := Lib.hid hB
  clear hB
  refine (tables_ok hR3 hs h).mono ?_
  rintro e w4 ⟨g, cap, rfl, hI1, hI2, hR4, hU4, hg⟩
  have ha4 := hBa.upd hU4 (by simp; omega)
  have hb4 := hBb.upd hU4 (by simp; omega)
  have hw4 := hBw.upd hU4 (by simp; omega)
  have hUw4 : Upd [b] w w4 := (hU3.mono (by simp)).then hU4
  have HI1 := Lib.hid hI1
  have HI2 := Lib.hid hI2
  clear hI1 hI2 hR3 hR4 h hBa hBb hBw
  generalize hn1 : A1.length = n1 at *
  generalize hn2 : B1.length = n2 at *
  have HN1 := Lib.hid hn1
  have HN2 := Lib.hid hn2
  clear hn1 hn2
  have a4 := ha4.cell 0 rfl
  have a4z := ha4.frz 0
  have b4 := hb4.cell 0 rfl
  have b4z := hb4.frz 0
  have b4' := (hb4.setFar (a := ⟨B, 0, none⟩) (.slice (some ⟨g, 0, none⟩) n1 cap) (by simp)).cell 0 rfl
  go_wp2
  obtain ⟨w5, hw5⟩ : ∃ w5, w5 = (w4.setCell ⟨B, 0, none⟩ (.slice (some ⟨g, 0, none⟩) n1 cap)).setCell ⟨B + 1, 0, none⟩ (.slice (some ⟨g, n1, none⟩) n2 (cap - n1)) := ⟨_, rfl⟩
  have ha5 : Blk w5 B [.slice (some ⟨g, 0, none⟩) n1 cap] 41 := by rw [hw5]; exact (ha4.set 0 _).setFar _ (by simp)
  have hb5 : Blk w5 (B + 1) [.slice (some ⟨g, n1, none⟩) n2 (cap - n1)] 41 := by rw [hw5]; exact (hb4.setFar _ (by simp)).set 0 _
  have hwy5 : Blk w5 (B + 1 + 1) [.int .i64 0] 67 := by rw [hw5]; exact (hw4.setFar _ (by simp; omega)).setFar _ (by simp)
  have hU45 : Upd [B, B + 1] w4 w5 := by rw [hw5]; exact ((Upd.refl _ _).setCell (.inl (by simp)) _).setCell (.inl (by simp)) _
  rw [← hw5]
  clear hw5 a4 a4z b4 b4z b4' ha4 hb4 hw4
  have a5 := ha5.cell 0 rfl
  have a5z := ha5.frz 0
  have b5 := hb5.cell 0 rfl
  have b5z := hb5.frz 0
  have c5 := hwy5.cell 0 rfl
  have c5z := hwy5.frz 0
  have b6 := (hb5.setFar (a := ⟨B, 0, none⟩) (.slice (some ⟨g, 0, none⟩) n1 cap) (by simp)).cell 0 rfl
  have c6 := ((hwy5.setFar (a := ⟨B, 0, none⟩) (.slice (some ⟨g, 0, none⟩) n1 cap) (by simp; omega)).setFar (a := ⟨B + 1, 0, none⟩) (.slice (some ⟨g, n1, none⟩) n2 (cap - n1)) (by simp)).cell 0 rfl
  refine wp_calm ?_
  go_region_law (fail)
  all_goals go_wp2
  all_goals (
    have ha9 := ((ha5.set 0 (.slice (some ⟨g, 0, none⟩) n1 cap)).setFar (a := ⟨B + 1, 0, none⟩) (.slice (some ⟨g, n1, none⟩) n2 (cap - n1)) (by simp)).setFar (a := ⟨B + 1 + 1, 0, none⟩) (.int .i64 0) (by simp; omega)
    have hb9 := ((hb5.setFar (a := ⟨B, 0, none⟩) (.slice (some ⟨g, 0, none⟩) n1 cap) (by simp)).set 0 (.slice (some ⟨g, n1, none⟩) n2 (cap - n1))).setFar (a := ⟨B + 1 + 1, 0, none⟩) (.int .i64 0) (by simp)
    have hw9 := ((hwy5.setFar (a := ⟨B, 0, none⟩) (.slice (some ⟨g, 0, none⟩) n1 cap) (by simp; omega)).setFar (a := ⟨B + 1, 0, none⟩) (.slice (some ⟨g, n1, none⟩) n2 (cap - n1)) (by simp)).set 0 (.int .i64 0)
    have hU9 : Upd [B, B + 1, B + 1 + 1] w4 (((w5.setCell ⟨B, 0, none⟩ (.slice (some ⟨g, 0, none⟩) n1 cap)).setCell ⟨B + 1, 0, none⟩ (.slice (some ⟨g, n1, none⟩) n2 (cap - n1))).setCell ⟨B + 1 + 1, 0, none⟩ (.int .i64 0)) :=
      (((hU45.mono (fun k hk => .inl (by simp at hk ⊢; omega))).setCell (.inl (by simp)) _).setCell (.inl (by simp)) _).setCell (.inl (by simp)) _
    have q1 := ha9.cell 0 rfl
    have q2 := hb9.cell 0 rfl
    have q3 := hw9.cell 0 rfl
    have i1 := HI1.out.upd hU9.drew (fun b off e => by cases e; simp; omega)
    have i2 := HI2.out.upd hU9.drew (fun b off e => by cases e; simp; omega)
    have hUf := hUw4.trans hU9.drew (fun k hk => .inr (by rw [← HB.out]; simp at hk; omega))
    refine leaves_cons (f := 51) (args := #[.pointer (some ⟨B + 1 + 1, 0, none⟩)]) (by simp) (by simp [go_sem]) ?_
    refine (caught_idle ⟨B + 1 + 1, 0, none⟩ _).mono ?_
    rintro e u' w'' ⟨rfl, rfl, rfl⟩
    show Leaves _ _ _ _ _ FrameMode.returning _
    refine leaves_cons (f := 60) (args := #[.pointer (some ⟨B + 1 + 1, 0, none⟩), .pointer (some ⟨B, 0, none⟩), .pointer (some ⟨B + 1, 0, none⟩)]) (by simp) (by simp [go_sem]) ?_
    refine (shut_fine ⟨B + 1 + 1, 0, none⟩ ⟨B, 0, none⟩ ⟨B + 1, 0, none⟩ _ ?_).mono ?_
    · exact q3
    rintro e u' w7 ⟨rfl, rfl, rfl⟩
    show Leaves _ _ _ _ _ FrameMode.returning _
    refine ⟨.tuple #[.slice (some ⟨g, 0, none⟩) n1 cap, .slice (some ⟨g, n1, none⟩) n2 (cap - n1), .int .i64 0], by simp [results, Try.results42, go_sem, q1, q2, q3], g, cap, ?_, ?_, ?_, hUf, by rw [← HB.out]; omega⟩
    · rw [HN1.out, HN2.out]
    · rw [HN1.out]; exact i1
    · rw [HN1.out, HN2.out]; exact i2)
end Go.Proofs.Ytcddlnmfdjfjfaa

/- Package script: Same, for any events: its walk. -/
import Derived.Test.YtigjingielnaoaaDoorQAN
import Derived.Test.YtigjingielnaoaaDoorScLv
namespace Go.Proofs.YtigjingielnaoaaDoor
set_option linter.unusedVariables false
set_option linter.unusedSimpArgs false
set_option linter.unusedSectionVars false
open Go.RowKit
set_option linter.unusedVariables false
set_option linter.unusedSimpArgs false

/-- An event: its numbers stand at v. -/
structure EvN where
  op : Int
  p : ByteArray
  q : ByteArray
  k : Int
  m : Int
  t : Nat
  D : ByteArray
  n : Int
  v : Value
  l : List Int
def EvN.cells (e : EvN) : List Value := [.int .i64 e.op, .string e.p, .string e.q, .int .i64 e.k, .int .i64 e.m, .int .u32 (e.t : Nat), .string e.D, .int .i64 e.n, e.v]
def EvN.val (e : EvN) : Value := .agg e.cells.toArray
def sameE (e o : EvN) : Bool := decide (e.op = o.op ∧ e.p = o.p ∧ e.q = o.q ∧ e.k = o.k ∧ e.m = o.m ∧ e.t = o.t ∧ e.D = o.D ∧ e.n = o.n ∧ e.l = o.l)
theorem toList_ne {a b : ByteArray} (h : a ≠ b) : (a.toList == b.toList) = false := by
  rw [beq_eq_false_iff_ne]
  intro h2
  exact h (by rw [ByteArray.toList_eq, ByteArray.toList_eq] at h2; exact ByteArray.ext (Array.ext' h2))
set_option maxRecDepth 100000 in
set_option maxHeartbeats 6400000 in
theorem ssame_any (e o : EvN) (w : World) (h1 : IntsAt w e.v e.l) (h2 : IntsAt w o.v o.l) (hl : e.l.length ≤ 9223372036854775807) (hl2 : o.l.length ≤ 9223372036854775807) :
    Calls Tryd.prog 103 #[e.val, o.val] w fun r w' => r = .returned (.bool (sameE e o)) ∧ Upd [] w w' := by
  obtain ⟨op, p, q, k, m, t, D, n, v, l⟩ := e
  obtain ⟨op2, p2, q2, k2, m2, t2, D2, n2, v2, l2⟩ := o
  dsimp only at h1 h2 hl hl2
  have HB := Lib.hid ((Blk.new w [.int .i64 op, .string p, .string q, .int .i64 k, .int .i64 m, .int .u32 (t : Nat), .string D, .int .i64 n, v] 44).alloc (.cells #[.int .i64 op2, .string p2, .string q2, .int .i64 k2, .int .i64 m2, .int .u32 (t2 : Nat), .string D2, .int .i64 n2, v2] 44))
  have HB2 : Hid (Blk ((w.alloc (.cells #[.int .i64 op, .string p, .string q, .int .i64 k, .int .i64 m, .int .u32 (t : Nat), .string D, .int .i64 n, v] 44)).alloc (.cells #[.int .i64 op2, .string p2, .string q2, .int .i64 k2, .int .i64 m2, .int .u32 (t2 : Nat), .string D2, .int .i64 n2, v2] 44)) (w.heap.size + 1) [.int .i64 op2, .string p2, .string q2, .int .i64 k2, .int .i64 m2, .int .u32 (t2 : Nat), .string D2, .int .i64 n2, v2] 44) := Lib.hid (by
    have h := Blk.new (w.alloc (.cells #[.int .i64 op, .string p, .string q, .int .i64 k, .int .i64 m, .int .u32 (t : Nat), .string D, .int .i64 n, v] 44)) [.int .i64 op2, .string p2, .string q2, .int .i64 k2, .int .i64 m2, .int .u32 (t2 : Nat), .string D2, .int .i64 n2, v2] 44
    simpa using h)
  have HU := Lib.hid (((Upd.refl [] w).alloc (.cells #[.int .i64 op, .string p, .string q, .int .i64 k, .int .i64 m, .int .u32 (t : Nat), .string D, .int .i64 n, v] 44)).alloc (.cells #[.int .i64 op2, .string p2, .string q2, .int .i64 k2, .int .i64 m2, .int .u32 (t2 : Nat), .string D2, .int .i64 n2, v2] 44))
  have HE := Lib.hid (fun w' (hu : Upd [] w w') => sequal_any l l2 v v2 w' (h1.upd hu) (h2.upd hu) hl hl2)
  clear h1 h2 hl hl2
  unfold EvN.val EvN.cells
  dsimp only
  have hd : ∀ b : Bool, (b = decide (op = op2 ∧ p = p2 ∧ q = q2 ∧ k = k2 ∧ m = m2 ∧ t = t2 ∧ D = D2 ∧ n = n2 ∧ l = l2)) → sameE ⟨op, p, q, k, m, t, D, n, v, l⟩ ⟨op2, p2, q2, k2, m2, t2, D2, n2, v2, l2⟩ = b := fun b h => h.symm
  have HD := Lib.hid hd
  clear hd
  by_cases hop : op = op2
  · subst hop
    by_cases hp : p = p2
    · subst hp
      by_cases hq : q = q2
      · subst hq
        by_cases hk : k = k2
        · subst hk
          by_cases hm : m = m2
          · subst hm
            by_cases ht : t = t2
            · subst ht
              by_cases hD : D = D2
              · subst hD
                by_cases hn : n = n2
                · subst hn
                  have HV := Lib.hid (HD.out (decide (l = l2)) (by simp))
                  go_enter Tryd.func103, Tryd.ntmps103
                  have c0 := HB.out.cell 0 rfl
                  have c1 := HB.out.cell 1 rfl
                  have c2 := HB.out.cell 2 rfl
                  have c3 := HB.out.cell 3 rfl
                  have c4 := HB.out.cell 4 rfl
                  have c5 := HB.out.cell 5 rfl
                  have c6 := HB.out.cell 6 rfl
                  have c7 := HB.out.cell 7 rfl
                  have c8 := HB.out.cell 8 rfl
                  have d0 := HB2.out.cell 0 rfl
                  have d1 := HB2.out.cell 1 rfl
                  have d2 := HB2.out.cell 2 rfl
                  have d3 := HB2.out.cell 3 rfl
                  have d4 := HB2.out.cell 4 rfl
                  have d5 := HB2.out.cell 5 rfl
                  have d6 := HB2.out.cell 6 rfl
                  have d7 := HB2.out.cell 7 rfl
                  have d8 := HB2.out.cell 8 rfl
                  go_wp2_with fail
                  refine (HE.out _ HU.out).mono ?_
                  rintro r w5 ⟨rfl, hu5⟩
                  generalize decide (l = l2) = B at *
                  cases B
                  · go_wp2
                    go_ret
                    exact ⟨by rw [HV.out]; rfl, HU.out.then hu5⟩
                  · go_wp2
                    go_ret
                    exact ⟨by rw [HV.out]; rfl, HU.out.then hu5⟩
                · have HV := Lib.hid (HD.out false (by rw [eq_comm]; apply decide_eq_false; intro h; exact hn (by simp_all)))
                  have hne : (n == n2) = false := by simpa using hn
                  clear hn
                  go_enter Tryd.func103, Tryd.ntmps103
                  have c0 := HB.out.cell 0 rfl
                  have c1 := HB.out.cell 1 rfl
                  have c2 := HB.out.cell 2 rfl
                  have c3 := HB.out.cell 3 rfl
                  have c4 := HB.out.cell 4 rfl
                  have c5 := HB.out.cell 5 rfl
                  have c6 := HB.out.cell 6 rfl
                  have c7 := HB.out.cell 7 rfl
                  have c8 := HB.out.cell 8 rfl
                  have d0 := HB2.out.cell 0 rfl
                  have d1 := HB2.out.cell 1 rfl
                  have d2 := HB2.out.cell 2 rfl
                  have d3 := HB2.out.cell 3 rfl
                  have d4 := HB2.out.cell 4 rfl
                  have d5 := HB2.out.cell 5 rfl
                  have d6 := HB2.out.cell 6 rfl
                  have d7 := HB2.out.cell 7 rfl
                  have d8 := HB2.out.cell 8 rfl
                  go_wp2
                  go_ret
                  exact ⟨by rw [HV.out]; rfl, HU.out⟩
              · have HV := Lib.hid (HD.out false (by rw [eq_comm]; apply decide_eq_false; intro h; exact hD (by simp_all)))
                have hne := toList_ne hD
                clear hD
                go_enter Tryd.func103, Tryd.ntmps103
                have c0 := HB.out.cell 0 rfl
                have c1 := HB.out.cell 1 rfl
                have c2 := HB.out.cell 2 rfl
                have c3 := HB.out.cell 3 rfl
                have c4 := HB.out.cell 4 rfl
                have c5 := HB.out.cell 5 rfl
                have c6 := HB.out.cell 6 rfl
                have c7 := HB.out.cell 7 rfl
                have c8 := HB.out.cell 8 rfl
                have d0 := HB2.out.cell 0 rfl
                have d1 := HB2.out.cell 1 rfl
                have d2 := HB2.out.cell 2 rfl
                have d3 := HB2.out.cell 3 rfl
                have d4 := HB2.out.cell 4 rfl
                have d5 := HB2.out.cell 5 rfl
                have d6 := HB2.out.cell 6 rfl
                have d7 := HB2.out.cell 7 rfl
                have d8 := HB2.out.cell 8 rfl
                go_wp2
                go_ret
                exact ⟨by rw [HV.out]; rfl, HU.out⟩
            · have HV := Lib.hid (HD.out false (by rw [eq_comm]; apply decide_eq_false; intro h; exact ht (by simp_all)))
              have hne : (t == t2) = false := by simpa using ht
              have hne2 : ((t : Int) == (t2 : Int)) = false := by simp; omega
              clear ht
              go_enter Tryd.func103, Tryd.ntmps103
              have c0 := HB.out.cell 0 rfl
              have c1 := HB.out.cell 1 rfl
              have c2 := HB.out.cell 2 rfl
              have c3 := HB.out.cell 3 rfl
              have c4 := HB.out.cell 4 rfl
              have c5 := HB.out.cell 5 rfl
              have c6 := HB.out.cell 6 rfl
              have c7 := HB.out.cell 7 rfl
              have c8 := HB.out.cell 8 rfl
              have d0 := HB2.out.cell 0 rfl
              have d1 := HB2.out.cell 1 rfl
              have d2 := HB2.out.cell 2 rfl
              have d3 := HB2.out.cell 3 rfl
              have d4 := HB2.out.cell 4 rfl
              have d5 := HB2.out.cell 5 rfl
              have d6 := HB2.out.cell 6 rfl
              have d7 := HB2.out.cell 7 rfl
              have d8 := HB2.out.cell 8 rfl
              go_wp2
              go_ret
              exact ⟨by rw [HV.out]; rfl, HU.out⟩
          · have HV := Lib.hid (HD.out false (by rw [eq_comm]; apply decide_eq_false; intro h; exact hm (by simp_all)))
            have hne : (m == m2) = false := by simpa using hm
            clear hm
            go_enter Tryd.func103, Tryd.ntmps103
            have c0 := HB.out.cell 0 rfl
            have c1 := HB.out.cell 1 rfl
            have c2 := HB.out.cell 2 rfl
            have c3 := HB.out.cell 3 rfl
            have c4 := HB.out.cell 4 rfl
            have c5 := HB.out.cell 5 rfl
            have c6 := HB.out.cell 6 rfl
            have c7 := HB.out.cell 7 rfl
            have c8 := HB.out.cell 8 rfl
            have d0 := HB2.out.cell 0 rfl
            have d1 := HB2.out.cell 1 rfl
            have d2 := HB2.out.cell 2 rfl
            have d3 := HB2.out.cell 3 rfl
            have d4 := HB2.out.cell 4 rfl
            have d5 := HB2.out.cell 5 rfl
            have d6 := HB2.out.cell 6 rfl
            have d7 := HB2.out.cell 7 rfl
            have d8 := HB2.out.cell 8 rfl
            go_wp2
            go_ret
            exact ⟨by rw [HV.out]; rfl, HU.out⟩
        · have HV := Lib.hid (HD.out false (by rw [eq_comm]; apply decide_eq_false; intro h; exact hk (by simp_all)))
          have hne : (k == k2) = false := by simpa using hk
          clear hk
          go_enter Tryd.func103, Tryd.ntmps103
          have c0 := HB.out.cell 0 rfl
          have c1 := HB.out.cell 1 rfl
          have c2 := HB.out.cell 2 rfl
          have c3 := HB.out.cell 3 rfl
          have c4 := HB.out.cell 4 rfl
          have c5 := HB.out.cell 5 rfl
          have c6 := HB.out.cell 6 rfl
          have c7 := HB.out.cell 7 rfl
          have c8 := HB.out.cell 8 rfl
          have d0 := HB2.out.cell 0 rfl
          have d1 := HB2.out.cell 1 rfl
          have d2 := HB2.out.cell 2 rfl
          have d3 := HB2.out.cell 3 rfl
          have d4 := HB2.out.cell 4 rfl
          have d5 := HB2.out.cell 5 rfl
          have d6 := HB2.out.cell 6 rfl
          have d7 := HB2.out.cell 7 rfl
          have d8 := HB2.out.cell 8 rfl
          go_wp2
          go_ret
          exact ⟨by rw [HV.out]; rfl, HU.out⟩
      · have HV := Lib.hid (HD.out false (by rw [eq_comm]; apply decide_eq_false; intro h; exact hq (by simp_all)))
        have hne := toList_ne hq
        clear hq
        go_enter Tryd.func103, Tryd.ntmps103
        have c0 := HB.out.cell 0 rfl
        have c1 := HB.out.cell 1 rfl
        have c2 := HB.out.cell 2 rfl
        have c3 := HB.out.cell 3 rfl
        have c4 := HB.out.cell 4 rfl
        have c5 := HB.out.cell 5 rfl
        have c6 := HB.out.cell 6 rfl
        have c7 := HB.out.cell 7 rfl
        have c8 := HB.out.cell 8 rfl
        have d0 := HB2.out.cell 0 rfl
        have d1 := HB2.out.cell 1 rfl
        have d2 := HB2.out.cell 2 rfl
        have d3 := HB2.out.cell 3 rfl
        have d4 := HB2.out.cell 4 rfl
        have d5 := HB2.out.cell 5 rfl
        have d6 := HB2.out.cell 6 rfl
        have d7 := HB2.out.cell 7 rfl
        have d8 := HB2.out.cell 8 rfl
        go_wp2
        go_ret
        exact ⟨by rw [HV.out]; rfl, HU.out⟩
    · have HV := Lib.hid (HD.out false (by rw [eq_comm]; apply decide_eq_false; intro h; exact hp (by simp_all)))
      have hne := toList_ne hp
      clear hp
      go_enter Tryd.func103, Tryd.ntmps103
      have c0 := HB.out.cell 0 rfl
      have c1 := HB.out.cell 1 rfl
      have c2 := HB.out.cell 2 rfl
      have c3 := HB.out.cell 3 rfl
      have c4 := HB.out.cell 4 rfl
      have c5 := HB.out.cell 5 rfl
      have c6 := HB.out.cell 6 rfl
      have c7 := HB.out.cell 7 rfl
      have c8 := HB.out.cell 8 rfl
      have d0 := HB2.out.cell 0 rfl
      have d1 := HB2.out.cell 1 rfl
      have d2 := HB2.out.cell 2 rfl
      have d3 := HB2.out.cell 3 rfl
      have d4 := HB2.out.cell 4 rfl
      have d5 := HB2.out.cell 5 rfl
      have d6 := HB2.out.cell 6 rfl
      have d7 := HB2.out.cell 7 rfl
      have d8 := HB2.out.cell 8 rfl
      go_wp2
      go_ret
      exact ⟨by rw [HV.out]; rfl, HU.out⟩
  · have HV := Lib.hid (HD.out false (by rw [eq_comm]; apply decide_eq_false; intro h; exact hop (by simp_all)))
    have hne : (op == op2) = false := by simpa using hop
    clear hop
    go_enter Tryd.func103, Tryd.ntmps103
    have c0 := HB.out.cell 0 rfl
    have c1 := HB.out.cell 1 rfl
    have c2 := HB.out.cell 2 rfl
    have c3 := HB.out.cell 3 rfl
    have c4 := HB.out.cell 4 rfl
    have c5 := HB.out.cell 5 rfl
    have c6 := HB.out.cell 6 rfl
    have c7 := HB.out.cell 7 rfl
    have c8 := HB.out.cell 8 rfl
    have d0 := HB2.out.cell 0 rfl
    have d1 := HB2.out.cell 1 rfl
    have d2 := HB2.out.cell 2 rfl
    have d3 := HB2.out.cell 3 rfl
    have d4 := HB2.out.cell 4 rfl
    have d5 := HB2.out.cell 5 rfl
    have d6 := HB2.out.cell 6 rfl
    have d7 := HB2.out.cell 7 rfl
    have d8 := HB2.out.cell 8 rfl
    go_wp2
    go_ret
    exact ⟨by rw [HV.out]; rfl, HU.out⟩
end Go.Proofs.YtigjingielnaoaaDoor

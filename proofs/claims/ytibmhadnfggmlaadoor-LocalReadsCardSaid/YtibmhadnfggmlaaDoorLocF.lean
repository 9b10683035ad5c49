/- Package local: form, the closure of Read: walks. -/
import Derived.Test.YtibmhadnfggmlaaDoorHdW
import Derived.Test.YtibmhadnfggmlaaDoorRefA
namespace Go.Proofs.YtibmhadnfggmlaaDoor
open Go.RowKit
set_option linter.unusedVariables false

set_option maxRecDepth 100000 in
set_option maxHeartbeats 4000000 in
theorem form_any (q : ByteArray) (m sum l wh : Nat) (k md : Int) (t : Nat) (pos : Int) (beg flags : Nat) (nm : ByteArray) (name : List Nat) (w : World) :
    Calls Tryd.prog 91 #[.agg #[.string q, .int .i64 (m : Nat), .int .u32 (sum : Nat), .int .i64 (l : Nat), .int .i64 (wh : Nat), .int .i64 k, .int .i64 md, .int .u32 (t : Nat), .int .i64 pos, .int .u64 (beg : Nat), .int .u64 (flags : Nat), .string nm]] w fun e w' => e = .returned (.bool (formB ⟨beg, flags, m, t, sum, l, wh, name⟩)) ∧ Upd [] w w' := by
  by_cases h1 : beg = 67324752
  rotate_left
  · have HF : Hid (formB ⟨beg, flags, m, t, sum, l, wh, name⟩ = false) := Lib.hid (by unfold formB; simp [h1])
    have t1 : ((beg : Int) == 67324752) = false := by rw [beq_eq_false_iff_ne]; omega
    go_enter Tryd.func91, Tryd.ntmps91
    go_wp2
    go_ret
    exact ⟨by rw [HF.out]; rfl, (Upd.refl _ _).alloc _⟩
  · by_cases h2 : flags = 2048 ∨ flags = 2056
    rotate_left
    · have HF : Hid (formB ⟨beg, flags, m, t, sum, l, wh, name⟩ = false) := Lib.hid (by
          unfold formB
          have : ¬ flags = 2048 := by omega
          have : ¬ flags = 2056 := by omega
          simp [*])
      have t1 : ((beg : Int) == 67324752) = true := by rw [beq_iff_eq]; omega
      have t2 : ((flags : Int) == 2048) = false := by rw [beq_eq_false_iff_ne]; omega
      have t3 : ((flags : Int) == 2056) = false := by rw [beq_eq_false_iff_ne]; omega
      go_enter Tryd.func91, Tryd.ntmps91
      go_wp2
      go_ret
      exact ⟨by rw [HF.out]; rfl, (Upd.refl _ _).alloc _⟩
    · by_cases h3 : m = 0 ∨ m = 8
      rotate_left
      · rcases h2 with h2 | h2
        · have hfl : flags = 2048 := h2
          have HF : Hid (formB ⟨beg, flags, m, t, sum, l, wh, name⟩ = false) := Lib.hid (by
              unfold formB
              have : ¬ m = 0 := by omega
              have : ¬ m = 8 := by omega
              simp [*])
          have t1 : ((beg : Int) == 67324752) = true := by rw [beq_iff_eq]; omega
          have t2 : ((flags : Int) == 2048) = true := by rw [beq_iff_eq]; omega
          have t4 : ((m : Int) == 0) = false := by rw [beq_eq_false_iff_ne]; omega
          have t5 : ((m : Int) == 8) = false := by rw [beq_eq_false_iff_ne]; omega
          go_enter Tryd.func91, Tryd.ntmps91
          go_wp2
          go_ret
          exact ⟨by rw [HF.out]; rfl, (Upd.refl _ _).alloc _⟩
        · have hfl : flags = 2056 := h2
          have HF : Hid (formB ⟨beg, flags, m, t, sum, l, wh, name⟩ = false) := Lib.hid (by
              unfold formB
              have : ¬ m = 0 := by omega
              have : ¬ m = 8 := by omega
              simp [*])
          have t1 : ((beg : Int) == 67324752) = true := by rw [beq_iff_eq]; omega
          have t2 : ((flags : Int) == 2048) = false := by rw [beq_eq_false_iff_ne]; omega
          have t3 : ((flags : Int) == 2056) = true := by rw [beq_iff_eq]; omega
          have t4 : ((m : Int) == 0) = false := by rw [beq_eq_false_iff_ne]; omega
          have t5 : ((m : Int) == 8) = false := by rw [beq_eq_false_iff_ne]; omega
          go_enter Tryd.func91, Tryd.ntmps91
          go_wp2
          go_ret
          exact ⟨by rw [HF.out]; rfl, (Upd.refl _ _).alloc _⟩
      · rcases h2 with h2 | h2
        · rcases h3 with h3 | h3
          · have HF : Hid (formB ⟨beg, flags, m, t, sum, l, wh, name⟩ = true) := Lib.hid (by unfold formB; simp [h1, h2, h3])
            have t1 : ((beg : Int) == 67324752) = true := by rw [beq_iff_eq]; omega
            have t2 : ((flags : Int) == 2048) = true := by rw [beq_iff_eq]; omega
            have t4 : ((m : Int) == 0) = true := by rw [beq_iff_eq]; omega
            go_enter Tryd.func91, Tryd.ntmps91
            go_wp2
            go_ret
            exact ⟨by rw [HF.out]; rfl, (Upd.refl _ _).alloc _⟩
          · have HF : Hid (formB ⟨beg, flags, m, t, sum, l, wh, name⟩ = true) := Lib.hid (by unfold formB; simp [h1, h2, h3])
            have t1 : ((beg : Int) == 67324752) = true := by rw [beq_iff_eq]; omega
            have t2 : ((flags : Int) == 2048) = true := by rw [beq_iff_eq]; omega
            have t4 : ((m : Int) == 0) = false := by rw [beq_eq_false_iff_ne]; omega
            have t5 : ((m : Int) == 8) = true := by rw [beq_iff_eq]; omega
            go_enter Tryd.func91, Tryd.ntmps91
            go_wp2
            go_ret
            exact ⟨by rw [HF.out]; rfl, (Upd.refl _ _).alloc _⟩
        · rcases h3 with h3 | h3
          · by_cases e1 : sum = 0
            rotate_left
            · have HF : Hid (formB ⟨beg, flags, m, t, sum, l, wh, name⟩ = false) := Lib.hid (by unfold formB; simp [h1, h2, h3, e1])
              have t1 : ((beg : Int) == 67324752) = true := by rw [beq_iff_eq]; omega
              have t2 : ((flags : Int) == 2048) = false := by rw [beq_eq_false_iff_ne]; omega
              have t3 : ((flags : Int) == 2056) = true := by rw [beq_iff_eq]; omega
              have t4 : ((m : Int) == 0) = true := by rw [beq_iff_eq]; omega
              have t6 : ((sum : Int) == 0) = false := by rw [beq_eq_false_iff_ne]; omega
              go_enter Tryd.func91, Tryd.ntmps91
              go_wp2
              go_ret
              exact ⟨by rw [HF.out]; rfl, (Upd.refl _ _).alloc _⟩
            · by_cases e2 : l = 0
              rotate_left
              · have HF : Hid (formB ⟨beg, flags, m, t, sum, l, wh, name⟩ = false) := Lib.hid (by unfold formB; simp [h1, h2, h3, e1, e2])
                have t1 : ((beg : Int) == 67324752) = true := by rw [beq_iff_eq]; omega
                have t2 : ((flags : Int) == 2048) = false := by rw [beq_eq_false_iff_ne]; omega
                have t3 : ((flags : Int) == 2056) = true := by rw [beq_iff_eq]; omega
                have t4 : ((m : Int) == 0) = true := by rw [beq_iff_eq]; omega
                have t6 : ((sum : Int) == 0) = true := by rw [beq_iff_eq]; omega
                have t7 : ((l : Int) == 0) = false := by rw [beq_eq_false_iff_ne]; omega
                go_enter Tryd.func91, Tryd.ntmps91
                go_wp2
                go_ret
                exact ⟨by rw [HF.out]; rfl, (Upd.refl _ _).alloc _⟩
              · by_cases e3 : wh = 0
                rotate_left
                · have HF : Hid (formB ⟨beg, flags, m, t, sum, l, wh, name⟩ = false) := Lib.hid (by unfold formB; simp [h1, h2, h3, e1, e2, e3])
                  have t1 : ((beg : Int) == 67324752) = true := by rw [beq_iff_eq]; omega
                  have t2 : ((flags : Int) == 2048) = false := by rw [beq_eq_false_iff_ne]; omega
                  have t3 : ((flags : Int) == 2056) = true := by rw [beq_iff_eq]; omega
                  have t4 : ((m : Int) == 0) = true := by rw [beq_iff_eq]; omega
                  have t6 : ((sum : Int) == 0) = true := by rw [beq_iff_eq]; omega
                  have t7 : ((l : Int) == 0) = true := by rw [beq_iff_eq]; omega
                  have t8 : ((wh : Int) == 0) = false := by rw [beq_eq_false_iff_ne]; omega
                  go_enter Tryd.func91, Tryd.ntmps91
                  go_wp2
                  go_ret
                  exact ⟨by rw [HF.out]; rfl, (Upd.refl _ _).alloc _⟩
                · have HF : Hid (formB ⟨beg, flags, m, t, sum, l, wh, name⟩ = true) := Lib.hid (by unfold formB; simp [h1, h2, h3, e1, e2, e3])
                  have t1 : ((beg : Int) == 67324752) = true := by rw [beq_iff_eq]; omega
                  have t2 : ((flags : Int) == 2048) = false := by rw [beq_eq_false_iff_ne]; omega
                  have t3 : ((flags : Int) == 2056) = true := by rw [beq_iff_eq]; omega
                  have t4 : ((m : Int) == 0) = true := by rw [beq_iff_eq]; omega
                  have t6 : ((sum : Int) == 0) = true := by rw [beq_iff_eq]; omega
                  have t7 : ((l : Int) == 0) = true := by rw [beq_iff_eq]; omega
                  have t8 : ((wh : Int) == 0) = true := by rw [beq_iff_eq]; omega
                  go_enter Tryd.func91, Tryd.ntmps91
                  go_wp2
                  go_ret
                  exact ⟨by rw [HF.out]; rfl, (Upd.refl _ _).alloc _⟩
          · by_cases e1 : sum = 0
            rotate_left
            · have HF : Hid (formB ⟨beg, flags, m, t, sum, l, wh, name⟩ = false) := Lib.hid (by unfold formB; simp [h1, h2, h3, e1])
              have t1 : ((beg : Int) == 67324752) = true := by rw [beq_iff_eq]; omega
              have t2 : ((flags : Int) == 2048) = false := by rw [beq_eq_false_iff_ne]; omega
              have t3 : ((flags : Int) == 2056) = true := by rw [beq_iff_eq]; omega
              have t4 : ((m : Int) == 0) = false := by rw [beq_eq_false_iff_ne]; omega
              have t5 : ((m : Int) == 8) = true := by rw [beq_iff_eq]; omega
              have t6 : ((sum : Int) == 0) = false := by rw [beq_eq_false_iff_ne]; omega
              go_enter Tryd.func91, Tryd.ntmps91
              go_wp2
              go_ret
              exact ⟨by rw [HF.out]; rfl, (Upd.refl _ _).alloc _⟩
            · by_cases e2 : l = 0
              rotate_left
              · have HF : Hid (formB ⟨beg, flags, m, t, sum, l, wh, name⟩ = false) := Lib.hid (by unfold formB; simp [h1, h2, h3, e1, e2])
                have t1 : ((beg : Int) == 67324752) = true := by rw [beq_iff_eq]; omega
                have t2 : ((flags : Int) == 2048) = false := by rw [beq_eq_false_iff_ne]; omega
                have t3 : ((flags : Int) == 2056) = true := by rw [beq_iff_eq]; omega
                have t4 : ((m : Int) == 0) = false := by rw [beq_eq_false_iff_ne]; omega
                have t5 : ((m : Int) == 8) = true := by rw [beq_iff_eq]; omega
                have t6 : ((sum : Int) == 0) = true := by rw [beq_iff_eq]; omega
                have t7 : ((l : Int) == 0) = false := by rw [beq_eq_false_iff_ne]; omega
                go_enter Tryd.func91, Tryd.ntmps91
                go_wp2
                go_ret
                exact ⟨by rw [HF.out]; rfl, (Upd.refl _ _).alloc _⟩
              · by_cases e3 : wh = 0
                rotate_left
                · have HF : Hid (formB ⟨beg, flags, m, t, sum, l, wh, name⟩ = false) := Lib.hid (by unfold formB; simp [h1, h2, h3, e1, e2, e3])
                  have t1 : ((beg : Int) == 67324752) = true := by rw [beq_iff_eq]; omega
                  have t2 : ((flags : Int) == 2048) = false := by rw [beq_eq_false_iff_ne]; omega
                  have t3 : ((flags : Int) == 2056) = true := by rw [beq_iff_eq]; omega
                  have t4 : ((m : Int) == 0) = false := by rw [beq_eq_false_iff_ne]; omega
                  have t5 : ((m : Int) == 8) = true := by rw [beq_iff_eq]; omega
                  have t6 : ((sum : Int) == 0) = true := by rw [beq_iff_eq]; omega
                  have t7 : ((l : Int) == 0) = true := by rw [beq_iff_eq]; omega
                  have t8 : ((wh : Int) == 0) = false := by rw [beq_eq_false_iff_ne]; omega
                  go_enter Tryd.func91, Tryd.ntmps91
                  go_wp2
                  go_ret
                  exact ⟨by rw [HF.out]; rfl, (Upd.refl _ _).alloc _⟩
                · have HF : Hid (formB ⟨beg, flags, m, t, sum, l, wh, name⟩ = true) := Lib.hid (by unfold formB; simp [h1, h2, h3, e1, e2, e3])
                  have t1 : ((beg : Int) == 67324752) = true := by rw [beq_iff_eq]; omega
                  have t2 : ((flags : Int) == 2048) = false := by rw [beq_eq_false_iff_ne]; omega
                  have t3 : ((flags : Int) == 2056) = true := by rw [beq_iff_eq]; omega
                  have t4 : ((m : Int) == 0) = false := by rw [beq_eq_false_iff_ne]; omega
                  have t5 : ((m : Int) == 8) = true := by rw [beq_iff_eq]; omega
                  have t6 : ((sum : Int) == 0) = true := by rw [beq_iff_eq]; omega
                  have t7 : ((l : Int) == 0) = true := by rw [beq_iff_eq]; omega
                  have t8 : ((wh : Int) == 0) = true := by rw [beq_iff_eq]; omega
                  go_enter Tryd.func91, Tryd.ntmps91
                  go_wp2
                  go_ret
                  exact ⟨by rw [HF.out]; rfl, (Upd.refl _ _).alloc _⟩
theorem bad_any (e : Nat) (w : World) (he : e < 100) : Calls Tryd.prog 87 #[.int .i64 (e : Nat)] w fun r w' => r = .returned (.tuple #[.agg #[.string { data := #[] }, .int .i64 0, .int .u32 0, .int .i64 0, .int .i64 0, .int .i64 0, .int .i64 0, .int .u32 0, .int .i64 0], .int .i64 0, .bool false, .int .i64 (e : Nat)]) ∧ Upd [] w w' := by
  go_enter Tryd.func87, Tryd.ntmps87
  go_wp2
  (try simp only [Exit.inBlock, Exit.then]); refine bodyPost_ret (results_rd4 rfl _ _ w.heap.size _ _ _ _ _ _ _ _ _ rfl (Blk.new w [.string { data := #[] }, .int .i64 0, .int .u32 0, .int .i64 0, .int .i64 0, .int .i64 0, .int .i64 0, .int .u32 0, .int .i64 0] 51)) rfl ⟨rfl, (Upd.refl _ _).alloc _⟩
end Go.Proofs.YtibmhadnfggmlaaDoor

/- Package extent: the example. -/
import Derived.Test.YtibmhadnfggmlaaExtK
namespace Go.Proofs.Ytibmhadnfggmlaa
open Go.RowKit Go.Shelf
attribute [local go_sem] Oper.semAt_some

def ex2 (i : Nat) : Int × Int := if i = 0 then (0, 4) else (4, 6)
theorem ex2_all : addsP ex2 2 = [(0, 6)] := by decide
set_option maxHeartbeats 1000000 in
theorem lives24 (w : World) : Calls Try.prog 6 #[] w fun e w' => e = .returned (.bool true) ∧ Upd [] w w' := by
  have hb := Blk.new w [.int .i64 0, .int .i64 4, .int .i64 4, .int .i64 6] 24
  have hn := new_any (some ⟨w.heap.size, 0, none⟩) 2 2 ex2 (w.alloc (.cells #[.int .i64 0, .int .i64 4, .int .i64 4, .int .i64 6] 24)) (by omega) (by omega) (by omega)
    (fun i hi => ⟨w.heap.size, 0, rfl, by
      have : i = 0 ∨ i = 1 := by omega
      rcases this with rfl | rfl
      · exact hb.cell 0 rfl
      · exact hb.cell 2 rfl, by
      have : i = 0 ∨ i = 1 := by omega
      rcases this with rfl | rfl
      · exact hb.cell 1 rfl
      · exact hb.cell 3 rfl⟩)
  rw [ex2_all] at hn
  have HN := Lib.hid hn
  clear hn hb
  go_enter Try.func6, Try.ntmps6
  go_wp2_with fail
  refine HN.out.mono ?_
  rintro e w1 ⟨b, v, rfl, hS⟩
  have hU1 : Upd [] w w1 := ((Upd.refl [] w).alloc _).then hS.up
  have hsp := spans_any _ _ w1 (hS.inn (by simp))
  have HSP := Lib.hid hsp
  clear hsp hS
  go_wp2_with fail
  refine HSP.out.mono ?_
  rintro e w2 ⟨v2, rfl, hR, hU2, _⟩
  have hU12 := hU1.then hU2
  obtain ⟨g, cap, rfl, hg, hc⟩ := hR.form' (by simp)
  have c0 := hR.cell 0 (u := .int .i64 0) rfl
  have c1 := hR.cell 1 (u := .int .i64 6) rfl
  have HU := Lib.hid hU12
  clear hU12 hU1 hU2 hR
  simp only [List.length_cons, List.length_nil] at *
  go_wp2
  go_ret
  exact ⟨rfl, HU.out⟩
end Go.Proofs.Ytibmhadnfggmlaa

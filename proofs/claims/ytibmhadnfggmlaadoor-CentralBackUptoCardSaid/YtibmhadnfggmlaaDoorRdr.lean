/- Package field: Reader: walks. -/
import Derived.Test.YtibmhadnfggmlaaDoorGB
import Derived.Test.YtibmhadnfggmlaaDoorGG
namespace Go.Proofs.YtibmhadnfggmlaaDoor
set_option linter.unusedVariables false
set_option linter.unusedSimpArgs false
set_option linter.unusedSectionVars false
open Go.RowKit
set_option linter.unusedVariables false

abbrev Rdr (w : World) (b : Nat) (r : RS) : Prop := Blk w b r.cells 150
set_option maxRecDepth 100000 in
theorem rdFine_any (b : Nat) (r : RS) (w : World) (hB : Rdr w b r) : Calls Tryd.prog 90 #[.pointer (some ⟨b, 0, none⟩)] w fun e w' => e = .returned (.bool (!r.bad)) ∧ w = w' := by
  obtain ⟨s, p, bad⟩ := r
  unfold Rdr RS.cells at hB
  dsimp only at *
  have c2 := hB.cell 2 rfl
  go_enter Tryd.func90, Tryd.ntmps90
  go_wp2
  go_ret
  exact ⟨rfl, rfl⟩
theorem rdAt_any (b : Nat) (r : RS) (w : World) (hB : Rdr w b r) : Calls Tryd.prog 92 #[.pointer (some ⟨b, 0, none⟩)] w fun e w' => e = .returned (.int .i64 (r.p : Nat)) ∧ w = w' := by
  obtain ⟨s, p, bad⟩ := r
  unfold Rdr RS.cells at hB
  dsimp only at *
  have c2 := hB.cell 1 rfl
  go_enter Tryd.func92, Tryd.ntmps92
  go_wp2
  go_ret
  exact ⟨rfl, rfl⟩
theorem rdLeft_any (b : Nat) (r : RS) (w : World) (hB : Rdr w b r) (hs : r.s.size ≤ 1000000) (hp : r.p ≤ r.s.size) : Calls Tryd.prog 150 #[.pointer (some ⟨b, 0, none⟩)] w fun e w' => e = .returned (.int .i64 ((r.s.size : Int) - (r.p : Nat))) ∧ Upd [] w w' ∧ Rdr w' b r := by
  obtain ⟨s, p, bad⟩ := r
  unfold Rdr RS.cells at hB ⊢
  dsimp only at *
  have c0 := hB.cell 0 rfl
  have c1 := hB.cell 1 rfl
  have HB := Lib.hid hB
  clear hB
  go_enter Tryd.func150, Tryd.ntmps150
  go_wp2
  go_quiet (fail)
  go_wp2
  go_ret
  exact ⟨rfl, (Upd.refl _ _).drewN _, HB.out⟩
theorem rdRead_any (s : ByteArray) (w : World) : Calls Tryd.prog 88 #[.string s] w fun e w' => e = .returned (.pointer (some ⟨w.heap.size, 0, none⟩)) ∧ Rdr w' w.heap.size ⟨s, 0, false⟩ ∧ Upd [] w w' := by
  go_enter Tryd.func88, Tryd.ntmps88
  go_wp2
  go_ret
  exact ⟨rfl, Blk.new w [.string s, .int .i64 0, .bool false] 150, (Upd.refl _ _).alloc _⟩
set_option maxRecDepth 100000 in
theorem rdText_any (b n : Nat) (r : RS) (w : World) (hB : Rdr w b r) (hs : r.s.size ≤ 1000000) (hp : r.p ≤ r.s.size) (hn : n ≤ 10000000) :
    Calls Tryd.prog 127 #[.pointer (some ⟨b, 0, none⟩), .int .i64 (n : Nat)] w fun e w' => e = .returned (.string (strOf (r.text n).1)) ∧ Rdr w' b (r.text n).2 ∧ Upd [b] w w' := by
  have HF := Lib.hid (fun w hB => rdFine_any b r w hB)
  have HL := Lib.hid (fun w hB => rdLeft_any b r w hB hs hp)
  have HB := Lib.hid hB
  obtain ⟨s, p, bad⟩ := r
  dsimp only at *
  cases bad with
  | true =>
    have HT := Lib.hid (RS.text_bad (r := ⟨s, p, true⟩) rfl n)
    clear hB
    go_enter Tryd.func127, Tryd.ntmps127
    go_wp2_with fail
    refine (HF.out _ HB.out).mono ?_
    rintro e w1 ⟨rfl, rfl⟩
    go_wp2
    go_ret
    exact ⟨by rw [HT.out]; rfl, by rw [HT.out]; exact HB.out, Upd.refl _ _⟩
  | false =>
    by_cases hc : s.size - p < n
    · have HT := Lib.hid (RS.text_short (s := s) (p := p) n hc)
      have hcz : (s.size : Int) - (p : Int) < (n : Int) := by omega
      have hn0 : ¬ (n : Int) < 0 := by omega
      clear hB
      go_enter Tryd.func127, Tryd.ntmps127
      go_wp2_with fail
      refine (HF.out _ HB.out).mono ?_
      rintro e w1 ⟨rfl, rfl⟩
      go_wp2_with fail
      refine (HL.out _ HB.out).mono ?_
      rintro e w2 ⟨rfl, hU, hB2⟩
      have c2 := Blk.cell hB2 2 rfl
      have f2 := Blk.frz hB2 2
      have HB2 := Lib.hid hB2
      have HU := Lib.hid hU
      clear hB2 hU
      go_wp2
      go_ret
      refine ⟨by rw [HT.out]; rfl, ?_, ?_⟩
      · rw [HT.out]; exact Blk.set HB2.out 2 _
      · exact (HU.out.mono (by simp)).setCell (.inl (by simp)) _
    · have hc' : n ≤ s.size - p := by omega
      have HT := Lib.hid (RS.text_fine (s := s) (p := p) n hc')
      have HST : Hid (strOf (((bytesOf s).drop p).take n) = s.extract p (p + n)) := Lib.hid (by
        rw [← strOf_bytesOf (s.extract p (p + n)), bytesOf_extract, Nat.add_sub_cancel_left])
      have hcz : ¬ (s.size : Int) - (p : Int) < (n : Int) := by omega
      have hn0 : ¬ (n : Int) < 0 := by omega
      clear hB
      go_enter Tryd.func127, Tryd.ntmps127
      go_wp2_with fail
      refine (HF.out _ HB.out).mono ?_
      rintro e w1 ⟨rfl, rfl⟩
      go_wp2_with fail
      refine (HL.out _ HB.out).mono ?_
      rintro e w2 ⟨rfl, hU, hB2⟩
      have c1 := Blk.cell hB2 1 rfl
      have f1 := Blk.frz hB2 1
      have HB2 := Lib.hid hB2
      have HU := Lib.hid hU
      clear hB2 hU
      go_wp2
      have hB3 : Blk (w2.setCell ⟨b, 1, none⟩ (.int .i64 ((p : Int) + (n : Int)))) b [.string s, .int .i64 ((p + n : Nat) : Int), .bool false] 150 := Blk.set HB2.out 1 _
      have hU3 : Upd [b] w (w2.setCell ⟨b, 1, none⟩ (.int .i64 ((p : Int) + (n : Int)))) := (HU.out.mono (by simp)).setCell (.inl (by simp)) _
      generalize w2.setCell ⟨b, 1, none⟩ (.int .i64 ((p : Int) + (n : Int))) = w3 at *
      have d0 := hB3.cell 0 rfl
      have d1 := hB3.cell 1 rfl
      have HB3 := Lib.hid hB3
      have HU3 := Lib.hid hU3
      clear hB3 hU3
      go_quiet (fail)
      go_wp2
      go_ret
      refine ⟨?_, ?_, HU3.out.drewN _⟩
      · rw [HT.out]
        show _ = Ending.returned (.string (strOf (((bytesOf s).drop p).take n)))
        rw [HST.out]; rfl
      · rw [HT.out]; exact HB3.out
end Go.Proofs.YtibmhadnfggmlaaDoor

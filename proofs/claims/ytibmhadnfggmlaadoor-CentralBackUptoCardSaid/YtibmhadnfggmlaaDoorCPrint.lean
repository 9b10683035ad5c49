/- Package central: Print: its walk; a builder that holds nothing. -/
import Derived.Test.YtibmhadnfggmlaaDoorCBackP
import Derived.Test.YtibmhadnfggmlaaDoorGK
import Derived.Test.YtibmhadnfggmlaaDoorGL
namespace Go.Proofs.YtibmhadnfggmlaaDoor
set_option linter.unusedVariables false
set_option linter.unusedSimpArgs false
set_option linter.unusedSectionVars false
open Go.RowKit
set_option linter.unusedVariables false

theorem isBld : IsBldT 97 := ⟨by kernel_rfl, by decide⟩
theorem cell_lt {w : World} {b o : Nat} {u : Value} (h : w.cell? ⟨b, o, none⟩ = some u) : b < w.heap.size := by
  rcases Nat.lt_or_ge b w.heap.size with h1 | h1
  · exact h1
  · rw [show w.cell? ⟨b, o, none⟩ = none by simp [World.cell?, Array.getElem?_eq_none h1]] at h; cases h
theorem RecsAt.below {w w' : World} {v : Value} {l : List RecD} {B : Nat} (h : RecsAt w v l) (hb : Below B w w') (hB : w.heap.size ≤ B) : RecsAt w' v l := by
  obtain ⟨a, cap, e, h⟩ := h
  refine ⟨a, cap, e, fun i hi => ?_⟩
  obtain ⟨b, off, e2, h2⟩ := h i hi
  exact ⟨b, off, e2, fun f u hu => (hb.cell (p := ⟨b, _, none⟩) (Nat.lt_of_lt_of_le (cell_lt (h2 f u hu)) hB)).trans (h2 f u hu)⟩
theorem RecsAt.upd {w w' : World} {v : Value} {l : List RecD} (h : RecsAt w v l) (hu : Upd [] w w') : RecsAt w' v l := h.below hu.below (Nat.le_refl _)
set_option maxRecDepth 100000 in
theorem bStringNil_any {T : TypeId} (b : Nat) (w : World) (h : Blk w b [.pointer none, .slice none 0 0] T) :
    Calls Tryd.prog 102 #[.pointer (some ⟨b, 0, none⟩)] w fun e w' => e = .returned (.string .empty) ∧ Upd [] w w' := by
  have c1 : w.drew.cell? ⟨b, 1, none⟩ = some (.slice none 0 0) := h.drew.cell 1 rfl
  have hSD : (Builtin.unsafeSliceData_ #[28] 153 #[.slice none 0 0]).run Tryd.prog w.drew = .ok (.pointer none) w.drew := Lib.run_unsafeSliceData_nil _ _ _ _ _
  have hUS : (Builtin.unsafeString_ #[153, 3] 9 #[.pointer none, .int .i64 0]).run Tryd.prog w.drew = .ok (.string .empty) w.drew := Lib.run_unsafeString_none _ _ _ _ _
  have HU := Lib.hid ((Upd.refl [] w).drew)
  clear h
  go_enter Tryd.func102, Tryd.ntmps102
  go_wp2
  go_region
  all_goals (go_wp2; go_ret; exact ⟨rfl, HU.out⟩)
theorem cflat_le (l : List RecD) (h : ∀ r ∈ l, recErr r = 0) : (cflat l).length ≤ l.length * 300 := by
  induction l with
  | nil => simp [cflat]
  | cons r l ih =>
    have h1 := ih (fun x hx => h x (List.mem_cons_of_mem _ hx))
    have h2 := recErr_len (h r (by simp))
    have h3 := nameP_len r.k r.p
    show (cheadP r ++ cflat l).length ≤ _
    rw [List.length_append, cheadP_len, List.length_cons]
    omega
set_option maxRecDepth 100000 in
set_option maxHeartbeats 3200000 in
theorem cenPrint_any (l : List RecD) (v : Value) (w : World) (h : RecsAt w v l) (hl : ∀ r ∈ l, r.Fits ∧ recErr r = 0) (hn : l.length ≤ 100) : Calls Tryd.prog 54 #[v] w fun e w' => e = .returned (.string (strOf (cflat l))) ∧ Upd [] w w' := by
  have HA := Lib.hid h
  obtain ⟨a, cap, rfl, h⟩ := h
  have H := Lib.hid h
  have HL := Lib.hid hl
  clear h hl
  obtain ⟨n, hnn⟩ : ∃ n, l.length = n := ⟨_, rfl⟩
  have HLE := Lib.hid (fun i => cflat_le (l.take i) (fun r hr => (HL.out r (List.mem_of_mem_take hr)).2))
  rw [hnn] at hn HA ⊢
  have HN := Lib.hid hnn
  clear hnn
  have HB0 := Lib.hid (Bld.fresh 97 w)
  have HK0 := Lib.hid (Blk.new w [.pointer none, .slice none 0 0] 97)
  have HL0 := Lib.hid ((Below.refl w.heap.size w).alloc (Nat.le_refl _) (.cells #[.pointer none, .slice none 0 0] 97))
  go_enter Tryd.func54, Tryd.ntmps54
  go_wp2
  go_loopg [8] n (fun gg s8 wr => ∃ i, i ≤ n ∧ gg = n - i ∧ s8 = .int .i64 (i : Nat) ∧ Hid (Bld 97 w.heap.size w.heap.size (cflat (l.take i)) wr) ∧ Hid (Below w.heap.size w wr) ∧ Hid (i = 0 → Blk wr w.heap.size [.pointer none, .slice none 0 0] 97))
  case atStart => exact ⟨0, Nat.zero_le _, rfl, rfl, HB0, HL0, Lib.hid (fun _ => HK0.out)⟩
  case round =>
    clear HB0 HL0 HK0
    obtain ⟨i, hin, rfl, rfl, HB, HW, HZ⟩ := hrel
    by_cases hc : i < n
    · have hcz : (i : Int) < (n : Int) := by omega
      have hil : i < l.length := by rw [HN.out]; exact hc
      obtain ⟨b1, o1, rfl, g1⟩ := H.out i hil
      obtain ⟨r, hr⟩ : ∃ r, r = l[i] := ⟨_, rfl⟩
      have hm := HL.out r (by rw [hr]; exact List.getElem_mem hil)
      rw [← hr] at g1
      have HT : Hid (cflat (l.take (i + 1)) = cflat (l.take i) ++ cheadP r) := Lib.hid (by rw [List.take_succ_eq_append_getElem hil, cflat_append, ← hr]; simp [cflat])
      have HWR := Lib.hid (fun w => cenWrite_any r w hm.1)
      have HCW : Hid (cwriteP r = cheadP r) := Lib.hid (if_pos hm.2)
      rw [HCW.out] at HWR
      have hlt : ∀ f u, r.cells[f]? = some u → wr.cell? ⟨b1, o1 + i * 9 + f, none⟩ = some u := fun f u hu => (HW.out.cell (p := ⟨b1, _, none⟩) (cell_lt (g1 f u hu))).trans (g1 f u hu)
      have hle := HLE.out i
      rw [List.length_take, HN.out] at hle
      have hsz : (cheadP r).length ≤ 300 := by rw [cheadP_len]; have := recErr_len hm.2; have := nameP_len r.k r.p; omega
      have HWS := Lib.hid (fun (w9 : World) (h9 : Bld 97 w.heap.size w.heap.size (cflat (l.take i)) w9) h8 => writeString_any isBld w.heap.size w.heap.size (cflat (l.take i)) (strOf (cheadP r)) w9 h9 (by rw [size_strOf]; omega) h8)
      rw [bytesOf_strOf _ (cheadP_lt r)] at HWS
      rw [← HT.out] at HWS
      have HWS2 : Hid ((strOf (cheadP r)).size = (strOf (cheadP r)).size) := Lib.hid rfl
      generalize strOf (cheadP r) = S at *
      clear hr hsz hle HT HWS2 HCW hm g1
      obtain ⟨p, m, sum, le, wh, k, md, t, pos⟩ := r
      unfold RecD.v at HWR
      dsimp only at HWR
      have c0 := hlt 0 (.string p) rfl
      have c1 := hlt 1 (.int .i64 m) rfl
      have c2 := hlt 2 (.int .u32 (sum : Nat)) rfl
      have c3 := hlt 3 (.int .i64 le) rfl
      have c4 := hlt 4 (.int .i64 wh) rfl
      have c5 := hlt 5 (.int .i64 k) rfl
      have c6 := hlt 6 (.int .i64 md) rfl
      have c7 := hlt 7 (.int .u32 (t : Nat)) rfl
      have c8 := hlt 8 (.int .i64 pos) rfl
      simp only [Nat.add_zero] at c0
      clear hlt
      go_wp2_with fail
      clear c0 c1 c2 c3 c4 c5 c6 c7 c8
      refine (HWR.out _).mono ?_
      rintro e w1 ⟨rfl, hu1⟩
      have hB1 := Bld.upd HB.out (((Upd.refl [] wr).alloc (.cells #[.string p, .int .i64 m, .int .u32 (sum : Nat), .int .i64 le, .int .i64 wh, .int .i64 k, .int .i64 md, .int .u32 (t : Nat), .int .i64 pos] 51)).then hu1)
      have hL1 := HW.out.trans ((((Upd.refl [] wr).alloc (.cells #[.string p, .int .i64 m, .int .u32 (sum : Nat), .int .i64 le, .int .i64 wh, .int .i64 k, .int .i64 md, .int .u32 (t : Nat), .int .i64 pos] 51)).then hu1).belowB (by have := HW.out.size; omega))
      have HB1 := Lib.hid hB1
      have HL1 := Lib.hid hL1
      clear hB1 hL1 HB HW hu1 HZ
      go_wp2_with fail
      refine (HWS.out _ HB1.out (by have := HL1.out.size; omega)).mono ?_
      rintro e w2 ⟨rfl, hB2, hL2⟩
      have HB2 := Lib.hid hB2
      have HL2 := Lib.hid (HL1.out.trans hL2)
      clear hB2 hL2 HB1 HL1
      go_wp2
      go_roundg (n - (i + 1))
      · exact ⟨i + 1, by omega, rfl, by first | rfl | go_num, HB2, HL2, Lib.hid (fun h => by omega)⟩
      · omega
    · have hcz : ¬ (i : Int) < (n : Int) := by omega
      have hin2 : i = n := by omega
      subst hin2
      have HT : Hid (l.take i = l) := Lib.hid (List.take_of_length_le (by rw [HN.out]; omega))
      rw [HT.out] at HB
      by_cases h0 : i = 0
      · have HK := Lib.hid (bStringNil_any w.heap.size wr (HZ.out h0))
        have HE : Hid (strOf (cflat l) = .empty) := Lib.hid (by have := HN.out; rw [h0] at this; rw [List.eq_nil_of_length_eq_zero this]; rfl)
        clear HZ h0
        go_wp2_with fail
        refine (HK.out).mono ?_
        rintro e w1 ⟨rfl, hu1⟩
        go_wp2
        go_ret
        exact ⟨by rw [HE.out]; rfl, Upd.of_below (HW.out.trans (hu1.belowB HW.out.size))⟩
      · have HK := Lib.hid (bString_any w.heap.size w.heap.size (cflat l) wr HB.out (by intro e; have := cflat_pos l (by rw [HN.out]; omega); rw [e] at this; simp at this) (cflat_lt l))
        clear HZ h0
        go_wp2_with fail
        refine (HK.out).mono ?_
        rintro e w1 ⟨rfl, hL1⟩
        go_wp2
        go_ret
        exact ⟨rfl, Upd.of_below (HW.out.trans hL1)⟩
end Go.Proofs.YtibmhadnfggmlaaDoor

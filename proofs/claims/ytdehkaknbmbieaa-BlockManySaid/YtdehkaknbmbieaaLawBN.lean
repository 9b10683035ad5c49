/- Law 10: BlockMany: its walk. -/
import Derived.Test.YtdehkaknbmbieaaLawBM
namespace Go.Proofs.Ytdehkaknbmbieaa
set_option linter.unusedVariables false
set_option linter.unusedSimpArgs false
set_option linter.unusedSectionVars false
open Go.RowKit
attribute [local go_sem] Oper.semAt_some
set_option linter.unusedVariables false
set_option linter.unusedSimpArgs false

def padA (p : List Nat) : List Nat := p ++ List.replicate 4 0
def padB (p : List Nat) : List Nat := p ++ List.replicate 260 0
theorem padA_add (p : List Nat) (c : Nat) (h : c < p.length) : addAt (padA p) c = padA (addAt p c) := addAt_pad _ _ _ h
theorem padB_add (p : List Nat) (c : Nat) (h : c < p.length) : addAt (padB p) c = padB (addAt p c) := addAt_pad _ _ _ h
theorem padA_get (p : List Nat) (c : Nat) (h : c < p.length) : (padA p)[c]? = some (p.getD c 0) := by
  unfold padA
  rw [List.getElem?_append_left h, List.getD_eq_getElem?_getD, List.getElem?_eq_getElem h]
  rfl
theorem padB_get (p : List Nat) (c : Nat) (h : c < p.length) : (padB p)[c]? = some (p.getD c 0) := by
  unfold padB
  rw [List.getElem?_append_left h, List.getD_eq_getElem?_getD, List.getElem?_eq_getElem h]
  rfl
theorem getD_some {p : List Nat} {c : Nat} (h : c < p.length) : p[c]? = some (p.getD c 0) := by
  rw [List.getD_eq_getElem?_getD, List.getElem?_eq_getElem h]
  rfl
theorem pad_start : (padA (List.replicate 286 0)).set 256 1 = padA (manyF []).1 ∧ padB (List.replicate 30 0) = padB (manyF []).2 := by
  constructor
  · rw [manyF_nil]
    show _ = padA ((List.replicate 286 0).set 256 1)
    unfold padA
    rw [List.set_append_left _ _ (by rw [List.length_replicate]; omega)]
  · rfl
theorem ints_get (a : List Nat) (j : Nat) : (ints a).getD j 0 = ((a.getD j 0 : Nat) : Int) := ints_getD a j
theorem tokBits_lit (x y : List Nat) (t : Tok) (h : t.long = 0) : tokBits (ints x) (ints y) t = ((x.getD t.byte 0 : Nat) : Int) := by
  unfold tokBits
  rw [if_pos h, ints_get]
theorem tokBits_far (x y : List Nat) (t : Tok) (h : ¬ t.long = 0) (r q : Nat) (hr : findL t.long.toNat 29 0 = some r) (hq : findD t.back.toNat 30 0 = some q) :
    tokBits (ints x) (ints y) t = ((x.getD (257 + r) 0 + lBits.getD r 0 + y.getD q 0 + dBt q : Nat) : Int) := by
  unfold tokBits
  rw [if_neg h, hr, hq, ints_get, ints_get]
  simp only [Option.getD_some]
  omega
theorem lBits5 : ∀ r : Fin 29, lBits.getD r.val 0 ≤ 5 := by decide +kernel
set_option maxRecDepth 100000 in
set_option maxHeartbeats 12800000 in
theorem law_blockMany (l : List Tok) (a ax ay : Option Addr) (n cap nx cx ny cy : Nat) (lx ly : List Nat) (w : World) (hI : TokIn w a n l) (hX : UintsIn w ax nx lx) (hY : UintsIn w ay ny ly) (hn : n ≤ 9223372036854775807) (hnc : n ≤ cap) (hnx : nx ≤ 9223372036854775807) (hny : ny ≤ 9223372036854775807) :
    Calls Try.prog 6 #[.slice a n cap, .slice ax nx cx, .slice ay ny cy] w fun e w' => LivesP w e w' := by
  have HLI := Lib.hid (light_any l a n cap w hI hn hnc)
  unfold LightP at HLI
  have HLX := Lib.hid hX.len
  have HLY := Lib.hid hY.len
  have HLN := Lib.hid hI.len
  have HI := Lib.hid hI
  have HX := Lib.hid hX
  have HY := Lib.hid hY
  clear hI hX hY
  by_cases hbad : lightB l = false ∨ 300 < nx ∨ 40 < ny
  · go_enter Try.func6, Try.ntmps6
    have HBAD := Lib.hid hbad
    generalize lightB l = bl at *
    clear hbad
    go_wp2_with fail
    refine HLI.out.mono ?_
    rintro e w1 ⟨rfl, hU1⟩
    have HU1 := Lib.hid hU1
    clear hU1 HLI
    have hfin : ∀ w9, Upd [] w w9 → Calls Try.prog 21 #[] w9 fun e w' => e = .returned (.bool true) ∧ Upd [] w w' := fun w9 h => (lives10_any w9).mono (fun e w' ⟨h1, h2⟩ => ⟨h1, h.then h2⟩)
    have HFIN := Lib.hid (hfin w1 HU1.out)
    clear hfin
    cases bl with
    | false =>
      go_wp2_with fail
      refine HFIN.out.mono ?_
      rintro e w2 ⟨rfl, hU2⟩
      have HU2 := Lib.hid hU2
      clear hU2
      go_wp2
      go_ret
      exact ⟨rfl, HU2.out⟩
    | true =>
      by_cases h3 : 300 < nx
      · have h3z : (300 : Int) < (nx : Int) := by omega
        go_wp2_with fail
        refine HFIN.out.mono ?_
        rintro e w2 ⟨rfl, hU2⟩
        have HU2 := Lib.hid hU2
        clear hU2
        go_wp2
        go_ret
        exact ⟨rfl, HU2.out⟩
      · have h3z : ¬ (300 : Int) < (nx : Int) := by omega
        have h4 : 40 < ny := by rcases HBAD.out with h | h | h; exact absurd h (by simp); exact absurd h h3; exact h
        have h4z : (40 : Int) < (ny : Int) := by omega
        go_wp2_with fail
        refine HFIN.out.mono ?_
        rintro e w2 ⟨rfl, hU2⟩
        have HU2 := Lib.hid hU2
        clear hU2
        go_wp2
        go_ret
        exact ⟨rfl, HU2.out⟩
  · have hgood : lightB l = true ∧ ¬ 300 < nx ∧ ¬ 40 < ny := by
      cases hl : lightB l with
      | false => exact absurd (.inl hl) hbad
      | true => exact ⟨rfl, fun h => hbad (.inr (.inl h)), fun h => hbad (.inr (.inr h))⟩
    obtain ⟨hl, h3, h4⟩ := hgood
    obtain ⟨hl100, hms, s, hs⟩ := lightB_yes hl
    have hbyte : ∀ t ∈ l, t.byte < 256 := fun t ht => by
      obtain ⟨i, hi, rfl⟩ := List.getElem_of_mem ht
      obtain ⟨_, _, _, _, r, _⟩ := HI.out.cell i hi
      exact r
    have hok := expTo_ok l [] s hbyte hs
    have h3z : ¬ (300 : Int) < (nx : Int) := by omega
    have h4z : ¬ (40 : Int) < (ny : Int) := by omega
    have hn100 : n ≤ 100 := by have := HLN.out; omega
    have HOK := Lib.hid hok
    have HMO := Lib.hid (many_ok l)
    rw [hl] at HLI
    obtain ⟨ZA, hZA⟩ : ∃ Z, List.replicate 286 0 = Z := ⟨_, rfl⟩
    obtain ⟨ZB, hZB⟩ : ∃ Z, List.replicate 30 0 = Z := ⟨_, rfl⟩
    have hm1 : ∀ w, (Instr.makeSlice 22 (.int .i64 286) (.int .i64 286)).run Try.prog w = .ok (.slice (some ⟨w.heap.size, 0, none⟩) 286 286) (w.alloc (.cells (i64s ZA).toArray 3)) := by rw [← hZA]; exact mkInts 286 (by omega)
    have hm2 : ∀ w, (Instr.makeSlice 22 (.int .i64 30) (.int .i64 30)).run Try.prog w = .ok (.slice (some ⟨w.heap.size, 0, none⟩) 30 30) (w.alloc (.cells (i64s ZB).toArray 3)) := by rw [← hZB]; exact mkInts 30 (by omega)
    have HZA := Lib.hid hZA
    have HZB := Lib.hid hZB
    clear hZA hZB hok hbyte hs hl hl100 hms hbad
    go_enter Try.func6, Try.ntmps6
    go_wp2_with fail
    refine HLI.out.mono ?_
    rintro e w1 ⟨rfl, hU1⟩
    have HU1 := Lib.hid hU1
    clear hU1 HLI
    go_upto_region 4 with fail
    change Code.wp _ _ _ _ ((w1.alloc (.cells (i64s (padA (List.replicate 286 0))).toArray 38)).alloc (.cells (i64s (padB (List.replicate 30 0))).toArray 38))
    have hA0 : Blk ((w1.alloc (.cells (i64s (padA (List.replicate 286 0))).toArray 38)).alloc (.cells (i64s (padB (List.replicate 30 0))).toArray 38)) w1.heap.size (i64s (padA (List.replicate 286 0))) 38 := (Blk.new w1 _ _).alloc _
    have hB0 : Blk ((w1.alloc (.cells (i64s (padA (List.replicate 286 0))).toArray 38)).alloc (.cells (i64s (padB (List.replicate 30 0))).toArray 38)) (w1.heap.size + 1) (i64s (padB (List.replicate 30 0))) 38 := by
      have h := Blk.new (w1.alloc (.cells (i64s (padA (List.replicate 286 0))).toArray 38)) (i64s (padB (List.replicate 30 0))) 38
      rw [World.size_alloc] at h
      exact h
    have hU3 : Upd [] w1 ((w1.alloc (.cells (i64s (padA (List.replicate 286 0))).toArray 38)).alloc (.cells (i64s (padB (List.replicate 30 0))).toArray 38)) := ((Upd.refl [] w1).alloc _).alloc _
    obtain ⟨w3, hw3⟩ : ∃ w3, w3 = (w1.alloc (.cells (i64s (padA (List.replicate 286 0))).toArray 38)).alloc (.cells (i64s (padB (List.replicate 30 0))).toArray 38) := ⟨_, rfl⟩
    rw [← hw3] at hA0 hB0 hU3 ⊢
    clear hw3
    have hg7 : w.heap.size ≤ w1.heap.size := HU1.out.size
    generalize w1.heap.size = g7 at *
    have HA0 := Lib.hid hA0
    have HB0 := Lib.hid hB0
    have HU3 := Lib.hid (HU1.out.then hU3)
    have hs3 : g7 + 1 < w3.heap.size := hB0.lt
    clear hA0 hB0 hU3 HU1
    go_cut [9, 10] (fun s9 s10 wx => ∃ oa ob, s9 = .slice (some ⟨oa, 0, none⟩) 286 286 ∧ s10 = .slice (some ⟨ob, 0, none⟩) 30 30 ∧ Hid (Blk wx oa (i64s ZA) 3) ∧ Hid (Blk wx ob (i64s ZB) 3) ∧ Hid (w3.heap.size ≤ oa ∧ w3.heap.size ≤ ob ∧ oa ≠ ob) ∧ Hid (Upd [] w3 wx))
    case first =>
      go_region
      all_goals go_wp2
      all_goals go_meet
      · have h2 := Blk.new (w3.alloc (.cells (i64s ZA).toArray 3)) (i64s ZB) 3
        rw [World.size_alloc] at h2
        exact ⟨_, _, rfl, rfl, Lib.hid ((Blk.new w3 (i64s ZA) 3).alloc _).drew, Lib.hid h2.drew, Lib.hid ⟨Nat.le_refl _, Nat.le_succ _, by omega⟩, Lib.hid (((Upd.refl [] w3).alloc _).alloc _).drew⟩
      · have h2 := Blk.new (w3.alloc (.cells (i64s ZB).toArray 3)) (i64s ZA) 3
        rw [World.size_alloc] at h2
        exact ⟨_, _, rfl, rfl, Lib.hid h2.drew, Lib.hid ((Blk.new w3 (i64s ZB) 3).alloc _).drew, Lib.hid ⟨Nat.le_succ _, Nat.le_refl _, by omega⟩, Lib.hid (((Upd.refl [] w3).alloc _).alloc _).drew⟩
    case rest =>
    obtain ⟨oa, ob, rfl, rfl, HBA, HBB, HNE, HUx⟩ := hcut
    have hne := HNE.out.2.2
    have hoa : g7 + 1 < oa ∧ g7 + 1 < ob := ⟨by have := HNE.out.1; omega, by have := HNE.out.2.1; omega⟩
    have HAx := Lib.hid (HA0.out.upd HUx.out (by simp))
    have HBx := Lib.hid (HB0.out.upd HUx.out (by simp))
    have HUw := Lib.hid (HU3.out.then HUx.out)
    have HS0 : Hid (Blk wc oa (i64s (xAt lx 286 0)) 3) := Lib.hid (by rw [xAt_zero, HZA.out]; exact HBA.out)
    have HW0 : Hid (∀ wr, Upd [oa] wc wr → Upd [] w wr) := Lib.hid (fun wr h => HUw.out.trans h (fun k hk => .inr (by simp at hk; omega)))
    clear hm1 hm2 HA0 HB0 HU3 HBA HUx HNE
    obtain ⟨WB0, hWB0⟩ : ∃ W, W = wc := ⟨_, rfl⟩
    subst hWB0
    go_wp2

    go_loopg [42] 1000 (fun gg s42 wr => ∃ i : Nat, i ≤ 286 ∧ gg = 1000 - i ∧ s42 = .int .i64 (i : Nat) ∧ Hid (Blk wr oa (i64s (xAt lx 286 i)) 3) ∧ Hid (Upd [oa] WB0 wr))
    case atStart => exact ⟨0, by omega, by omega, rfl, HS0, Lib.hid (Upd.refl _ _)⟩
    case round =>
    obtain ⟨i, hi, rfl, rfl, HBk, HUk⟩ := hrel
    by_cases hc : i < 286
    · have hcz : (i : Int) < 286 := by omega
      have hw1 : IntKind.i64.wrap ((i : Int) + 1) = ((i + 1 : Nat) : Int) := by rw [IntWalk.i64_in _ (by omega)]; rfl
      by_cases hin : i < nx
      · have hinz : (i : Int) < (nx : Int) := by omega
        have hil : i < lx.length := by rw [HLX.out]; exact hin
        obtain ⟨b, off, rfl, hcx, hv64⟩ := (HX.out.pure (HW0.out wr HUk.out)).cell i hil
        have HG : Hid (lx.getD i 0 = lx[i]) := Lib.hid (by rw [List.getD_eq_getElem?_getD, List.getElem?_eq_getElem hil]; rfl)
        have HXS := Lib.hid (xAt_set lx 286 i hc)
        have hgt := getD_some (show i < (xAt lx 286 i).length by rw [xAt_len]; exact hc)
        have ca := HBk.out.cell i (i64s_get _ i _ hgt)
        have fa := HBk.out.frz i
        generalize lx[i] = v at *
        have hv16 : ((v : Int) % 16) = ((v % 16 : Nat) : Int) := by omega
        have hvt : ((v : Int).tmod 16) = ((v % 16 : Nat) : Int) := by rw [Int.tmod_eq_emod_of_nonneg (by omega)]; omega
        have HB5 : Hid (Blk (wr.setCell ⟨oa, i, none⟩ (.int .i64 ((v % 16 : Nat) : Int))) oa (i64s (xAt lx 286 (i + 1))) 3) := Lib.hid (by
          rw [← HXS.out, i64s_set, HG.out]
          exact HBk.out.set i _)
        have HU5 := Lib.hid (HUk.out.setCell (p := ⟨oa, i, none⟩) (.inl (by simp)) (.int .i64 ((v % 16 : Nat) : Int)))
        obtain ⟨r, hr⟩ : ∃ r, v % 16 = r := ⟨_, rfl⟩
        have hr16 : r < 16 := by omega
        rw [hr] at HB5 HU5 hv16 hvt
        clear hil hgt HBk HUk hr
        go_wp2
        go_roundg (1000 - (i + 1))
        · exact ⟨i + 1, by omega, by first | rfl | omega, by first | rfl | go_num, HB5, HU5⟩
        · omega
      · have hinz : ¬ (i : Int) < (nx : Int) := by omega
        have HB5 : Hid (Blk wr oa (i64s (xAt lx 286 (i + 1))) 3) := Lib.hid (by rw [xAt_skip _ _ _ (by rw [HLX.out]; omega)]; exact HBk.out)
        clear HBk
        go_wp2
        go_roundg (1000 - (i + 1))
        · exact ⟨i + 1, by omega, by first | rfl | omega, by first | rfl | go_num, HB5, HUk⟩
        · omega
    have hcz : ¬ (i : Int) < 286 := by omega
    obtain rfl : i = 286 := by omega

    have HWw := Lib.hid (HW0.out wr HUk.out)
    have HA1 := Lib.hid (HAx.out.upd HUk.out (by simp; omega))
    have HB1 := Lib.hid (HBx.out.upd HUk.out (by simp; omega))
    have HS1 : Hid (Blk wr ob (i64s (xAt ly 30 0)) 3) := Lib.hid (by rw [xAt_zero, HZB.out]; exact HBB.out.upd HUk.out (by simp; omega))
    have HX1 := HBk
    have HW1 : Hid (∀ w9, Upd [ob] wr w9 → Upd [] w w9) := Lib.hid (fun w9 h => HWw.out.trans h (fun k hk => .inr (by simp at hk; omega)))
    clear HUk HAx HBx HBB HW0 HS0 HUw
    go_wp2
    obtain ⟨WB1, hWB1⟩ : ∃ W, W = wr := ⟨_, rfl⟩
    subst hWB1

    go_loopg [61] 1000 (fun gg s61 wr => ∃ i : Nat, i ≤ 30 ∧ gg = 1000 - i ∧ s61 = .int .i64 (i : Nat) ∧ Hid (Blk wr ob (i64s (xAt ly 30 i)) 3) ∧ Hid (Upd [ob] WB1 wr))
    case atStart => exact ⟨0, by omega, by omega, rfl, HS1, Lib.hid (Upd.refl _ _)⟩
    case round =>
    obtain ⟨i, hi, rfl, rfl, HBk, HUk⟩ := hrel
    by_cases hc : i < 30
    · have hcz : (i : Int) < 30 := by omega
      have hw1 : IntKind.i64.wrap ((i : Int) + 1) = ((i + 1 : Nat) : Int) := by rw [IntWalk.i64_in _ (by omega)]; rfl
      by_cases hin : i < ny
      · have hinz : (i : Int) < (ny : Int) := by omega
        have hil : i < ly.length := by rw [HLY.out]; exact hin
        obtain ⟨b, off, rfl, hcx, hv64⟩ := (HY.out.pure (HW1.out wr HUk.out)).cell i hil
        have HG : Hid (ly.getD i 0 = ly[i]) := Lib.hid (by rw [List.getD_eq_getElem?_getD, List.getElem?_eq_getElem hil]; rfl)
        have HXS := Lib.hid (xAt_set ly 30 i hc)
        have hgt := getD_some (show i < (xAt ly 30 i).length by rw [xAt_len]; exact hc)
        have ca := HBk.out.cell i (i64s_get _ i _ hgt)
        have fa := HBk.out.frz i
        generalize ly[i] = v at *
        have hv16 : ((v : Int) % 16) = ((v % 16 : Nat) : Int) := by omega
        have hvt : ((v : Int).tmod 16) = ((v % 16 : Nat) : Int) := by rw [Int.tmod_eq_emod_of_nonneg (by omega)]; omega
        have HB5 : Hid (Blk (wr.setCell ⟨ob, i, none⟩ (.int .i64 ((v % 16 : Nat) : Int))) ob (i64s (xAt ly 30 (i + 1))) 3) := Lib.hid (by
          rw [← HXS.out, i64s_set, HG.out]
          exact HBk.out.set i _)
        have HU5 := Lib.hid (HUk.out.setCell (p := ⟨ob, i, none⟩) (.inl (by simp)) (.int .i64 ((v % 16 : Nat) : Int)))
        obtain ⟨r, hr⟩ : ∃ r, v % 16 = r := ⟨_, rfl⟩
        have hr16 : r < 16 := by omega
        rw [hr] at HB5 HU5 hv16 hvt
        clear hil hgt HBk HUk hr
        go_wp2
        go_roundg (1000 - (i + 1))
        · exact ⟨i + 1, by omega, by first | rfl | omega, by first | rfl | go_num, HB5, HU5⟩
        · omega
      · have hinz : ¬ (i : Int) < (ny : Int) := by omega
        have HB5 : Hid (Blk wr ob (i64s (xAt ly 30 (i + 1))) 3) := Lib.hid (by rw [xAt_skip _ _ _ (by rw [HLY.out]; omega)]; exact HBk.out)
        clear HBk
        go_wp2
        go_roundg (1000 - (i + 1))
        · exact ⟨i + 1, by omega, by first | rfl | omega, by first | rfl | go_num, HB5, HUk⟩
        · omega
    have hcz : ¬ (i : Int) < 30 := by omega
    obtain rfl : i = 30 := by omega

    have HWw1 := Lib.hid (HW1.out wr HUk.out)
    have HA2 := Lib.hid (HA1.out.upd HUk.out (by simp; omega))
    have hB2 := HB1.out.upd HUk.out (by simp; omega)
    have hX2 := HX1.out.upd HUk.out (by simp; exact hne)
    have HY2 := HBk
    have HXL := Lib.hid (xAt_len lx 286 286)
    have HYL := Lib.hid (xAt_len ly 30 30)
    have HX15 := Lib.hid (xAt_15 lx 286 286)
    have HY15 := Lib.hid (xAt_15 ly 30 30)
    have HX2 := Lib.hid hX2
    have HB2 := Lib.hid hB2
    clear hX2 hB2 HUk HA1 HB1 HX1 HW1 HS1 HWw HBk
    generalize xAt lx 286 286 = xs at *
    generalize xAt ly 30 30 = ys at *
    have hx256 := getD_some (show 256 < xs.length by rw [HXL.out]; omega)
    have cx256 := HX2.out.cell 256 (i64s_get xs 256 _ hx256)
    have ca256 := HA2.out.cell 256 (i64s_get (padA (List.replicate 286 0)) 256 0 (by unfold padA; rw [List.getElem?_append_left (by rw [List.length_replicate]; omega), List.getElem?_replicate]; rfl))
    have fa256 := HA2.out.frz 256
    have HBT := Lib.hid (bitsOf_bd (ints xs) (ints ys) (ints_in15 HX15.out) (ints_in15 HY15.out) l HOK.out)
    have HA3 : Hid (Blk (wr.setCell ⟨g7, 256, none⟩ (.int .i64 1)) g7 (i64s (padA (manyF (l.take 0)).1)) 38) := Lib.hid (by
      have h := HA2.out.set 256 (.int .i64 1)
      rw [List.take_zero, ← pad_start.1]
      rw [i64s_set]
      exact h)
    have HB3 : Hid (Blk (wr.setCell ⟨g7, 256, none⟩ (.int .i64 1)) (g7 + 1) (i64s (padB (manyF (l.take 0)).2)) 38) := Lib.hid (by
      rw [List.take_zero, ← pad_start.2]
      exact HB2.out.setFar (a := ⟨g7, 256, none⟩) _ (by simp))
    have HX3 := Lib.hid (HX2.out.setFar (a := ⟨g7, 256, none⟩) (.int .i64 1) (by show oa ≠ g7; omega))
    have HY3 := Lib.hid (HY2.out.setFar (a := ⟨g7, 256, none⟩) (.int .i64 1) (by show ob ≠ g7; omega))
    have HU3 := Lib.hid (HWw1.out.setCell (p := ⟨g7, 256, none⟩) (.inr hg7) (.int .i64 1))
    have HN0 : Hid (bitsOf (ints xs) (ints ys) (l.take 0) = ((xs.getD 256 0 : Nat) : Int)) := Lib.hid (by rw [List.take_zero]; show (ints xs).getD 256 0 = _; rw [ints_get])
    generalize xs.getD 256 0 = x256 at *
    clear hx256 HA2 HB2 HX2 HY2 HWw1
    go_wp2
    clear cx256 ca256 fa256
    generalize wr.setCell ⟨g7, 256, none⟩ (.int .i64 1) = w5 at *
    go_loopg [13, 84] 200000 (fun gg s13 s84 wr => ∃ i : Nat, i ≤ n ∧ gg = 200000 - i ∧ s84 = .int .i64 (i : Nat) ∧ s13 = .int .i64 (bitsOf (ints xs) (ints ys) (l.take i)) ∧ Hid (Blk wr g7 (i64s (padA (manyF (l.take i)).1)) 38) ∧ Hid (Blk wr (g7 + 1) (i64s (padB (manyF (l.take i)).2)) 38) ∧ Hid (Upd [g7, g7 + 1] w5 wr))
    case atStart => exact ⟨0, by omega, by omega, rfl, by rw [HN0.out], HA3, HB3, Lib.hid (Upd.refl _ _)⟩
    case round =>
    clear HA3 HB3 HN0
    obtain ⟨i, hin, rfl, rfl, rfl, HA, HB, HU⟩ := hrel
    have hUw : Upd [] w wr := HU3.out.trans HU.out (fun k hk => .inr (by simp at hk; omega))
    by_cases hc : i < n
    · have hcz : (i : Int) < (n : Int) := by omega
      have hil : i < l.length := by rw [HLN.out]; exact hc
      have hw1 : IntKind.i64.wrap ((i : Int) + 1) = ((i + 1 : Nat) : Int) := by rw [IntWalk.i64_in _ (by omega)]; rfl
      obtain ⟨b, off, rfl, ⟨hc1, hc2, hc3⟩, r1, r2, r3⟩ := (HI.out.pure hUw).cell i hil
      have HST : Hid (manyF (l.take (i + 1)) = stepM (manyF (l.take i)) l[i]) := Lib.hid (by rw [List.take_succ_eq_append_getElem hil, manyF_snoc])
      have HBS : Hid (bitsOf (ints xs) (ints ys) (l.take (i + 1)) = bitsOf (ints xs) (ints ys) (l.take i) + tokBits (ints xs) (ints ys) l[i]) := Lib.hid (by rw [List.take_succ_eq_append_getElem hil, bitsOf_snoc])
      have hot := HOK.out l[i] (List.getElem_mem hil)
      have HMk := Lib.hid (HMO.out i (by omega))
      have hNb := HBT.out i (by omega)
      generalize bitsOf (ints xs) (ints ys) (l.take i) = N at *
      generalize l[i] = t at *
      generalize manyF (l.take i) = p at *
      obtain ⟨pa, pb⟩ := p
      obtain ⟨tb, tl, tk⟩ := t
      dsimp only at hc1 hc2 hc3 r1 r2 r3 HA HB
      have hT4 := Blk.new wr [.int .u8 (tb : Nat), .int .i64 tl, .int .i64 tk] 40
      have hU4 := HU.out.alloc (.cells #[.int .u8 (tb : Nat), .int .i64 tl, .int .i64 tk] 40)
      have hA4 := HA.out.alloc (.cells #[.int .u8 (tb : Nat), .int .i64 tl, .int .i64 tk] 40)
      have hB4 := HB.out.alloc (.cells #[.int .u8 (tb : Nat), .int .i64 tl, .int .i64 tk] 40)
      have hX4 := (HX3.out.upd HU.out (by simp; omega)).alloc (.cells #[.int .u8 (tb : Nat), .int .i64 tl, .int .i64 tk] 40)
      have hY4 := (HY3.out.upd HU.out (by simp; omega)).alloc (.cells #[.int .u8 (tb : Nat), .int .i64 tl, .int .i64 tk] 40)
      have hog : g7 + 1 < wr.heap.size ∧ oa < wr.heap.size ∧ ob < wr.heap.size := ⟨HB.out.lt, (HX3.out.upd HU.out (by simp; omega)).lt, (HY3.out.upd HU.out (by simp; omega)).lt⟩
      clear hil HA HB HU hUw
      go_upto_region 22 with fail
      change Code.wp _ _ _ _ (wr.alloc (.cells #[.int .u8 (tb : Nat), .int .i64 tl, .int .i64 tk] 40))
      generalize wr.alloc (.cells #[.int .u8 (tb : Nat), .int .i64 tl, .int .i64 tk] 40) = w4 at *
      generalize wr.heap.size = g at *
      have t0 := hT4.cell 0 rfl
      have t1 := hT4.cell 1 rfl
      have t2 := hT4.cell 2 rfl
      have HU4 := Lib.hid hU4
      have HT4 := Lib.hid hT4
      have HA4 := Lib.hid hA4
      have HB4 := Lib.hid hB4
      have HX4 := Lib.hid hX4
      have HY4 := Lib.hid hY4
      clear hT4 hU4 hA4 hB4 hX4 hY4 hc1 hc2 hc3
      have hla := HMk.out.la
      have hlb := HMk.out.lb
      have hba := HMk.out.ba
      have hbb := HMk.out.bb
      dsimp only at hla hlb hba hbb
      by_cases h0 : tl = 0
      · have hb256 : tb < 256 := by unfold okTok at hot; dsimp only at hot; omega
        have hcl : litC ⟨tb, tl, tk⟩ = tb := by unfold litC; rw [if_pos h0]
        have hS2 : stepM (pa, pb) ⟨tb, tl, tk⟩ = (addAt pa tb, pb) := by unfold stepM; rw [hcl]; dsimp only; rw [if_pos h0]
        have HTB := Lib.hid (tokBits_lit xs ys ⟨tb, tl, tk⟩ h0)
        have hgt := padA_get pa tb (by omega)
        have hle : pa.getD tb 0 ≤ i + 1 := getD_le hba tb
        have ca := HA4.out.cell tb (i64s_get (padA pa) tb _ hgt)
        have fa := HA4.out.frz tb
        have HAd : Hid ((padA pa).set tb (pa.getD tb 0 + 1) = padA (addAt pa tb)) := Lib.hid (by
          rw [← padA_add pa tb (by omega)]
          unfold addAt
          rw [List.getD_eq_getElem?_getD (l := padA pa), hgt]
          rfl)
        have hgx := getD_some (show tb < xs.length by rw [HXL.out]; omega)
        have cx0 := HX4.out.cell tb (i64s_get xs tb _ hgx)
        have hx15 := getD_le HX15.out tb
        generalize pa.getD tb 0 = y at *
        have cx := (HX4.out.setFar (a := ⟨g7, tb, none⟩) (.int .i64 ((y + 1 : Nat) : Int)) (by show oa ≠ g7; omega)).cell tb (i64s_get xs tb _ hgx)
        have tz := (HT4.out.setFar (a := ⟨g7, tb, none⟩) (.int .i64 ((y + 1 : Nat) : Int)) (by show g ≠ g7; omega)).cell 0 rfl
        dsimp only at HTB
        generalize xs.getD tb 0 = xv at *
        have hwy : IntKind.i64.wrap ((y : Int) + 1) = ((y + 1 : Nat) : Int) := by rw [IntWalk.i64_in _ (by omega)]; rfl
        have htz : (tb : Int) < 290 := by omega
        have htz2 : (tb : Int) < 286 := by omega
        have hwn : IntKind.i64.wrap (N + (xv : Int)) = N + (xv : Int) := IntWalk.i64_in _ (by omega)
        have HA5 : Hid (Blk (w4.setCell ⟨g7, tb, none⟩ (.int .i64 ((y + 1 : Nat) : Int))) g7 (i64s (padA (manyF (l.take (i + 1))).1)) 38) := Lib.hid (by
          rw [HST.out, hS2]
          dsimp only
          rw [← HAd.out, i64s_set]
          exact HA4.out.set tb _)
        have HB5 : Hid (Blk (w4.setCell ⟨g7, tb, none⟩ (.int .i64 ((y + 1 : Nat) : Int))) (g7 + 1) (i64s (padB (manyF (l.take (i + 1))).2)) 38) := Lib.hid (by
          rw [HST.out, hS2]
          exact HB4.out.setFar (a := ⟨g7, tb, none⟩) _ (by simp))
        have HU5 := Lib.hid (HU4.out.setCell (p := ⟨g7, tb, none⟩) (.inl (by simp)) (.int .i64 ((y + 1 : Nat) : Int)))
        have HN5 : Hid (bitsOf (ints xs) (ints ys) (l.take (i + 1)) = N + (xv : Int)) := Lib.hid (by rw [HBS.out, HTB.out])
        subst h0
        clear hot hla hlb hba hbb hcl hS2 hgt hgx HMk HT4 HA4 HB4 HU4 HX4 HY4 HAd
        go_wp2
        go_roundg (200000 - (i + 1))
        · exact ⟨i + 1, by omega, by first | rfl | omega, by first | rfl | go_num, by rw [HN5.out], HA5, HB5, HU5⟩
        · omega
      · have hot2 : 3 ≤ tl ∧ tl ≤ 258 ∧ 1 ≤ tk ∧ tk ≤ 32768 := by unfold okTok at hot; dsimp only at hot; omega
        obtain ⟨L, rfl⟩ : ∃ L : Nat, tl = (L : Int) := ⟨tl.toNat, by omega⟩
        obtain ⟨K, rfl⟩ : ∃ K : Nat, tk = (K : Int) := ⟨tk.toNat, by omega⟩
        have HSL := Lib.hid (fun w' => rlong_any L w' (by omega) (by omega))
        have HSB := Lib.hid (fun w' => rback_any K w' (by omega) (by omega))
        have HTF := Lib.hid (fun r q hr hq => tokBits_far xs ys ⟨tb, (L : Int), (K : Int)⟩ h0 r q hr hq)
        have hS2 : stepM (pa, pb) ⟨tb, (L : Int), (K : Int)⟩ = (addAt pa (257 + (findL L 29 0).getD 0), addAt pb ((findD K 30 0).getD 0)) := by
          unfold stepM litC bakC
          dsimp only
          rw [if_neg h0, if_neg h0, Int.toNat_natCast, Int.toNat_natCast]
        have HS2 := Lib.hid hS2
        have hL29 := findL_lt ⟨L, by omega⟩ (by omega : 3 ≤ L)
        dsimp only at hL29 HTF
        rw [Int.toNat_natCast, Int.toNat_natCast] at HTF
        have h0b : ((L : Int) == 0) = false := by simpa using h0
        have hK : 1 ≤ K ∧ K ≤ 32768 := by omega
        have hHA : Hid (∀ x ∈ pa, x ≤ i + 1) := Lib.hid hba
        have hHB : Hid (∀ x ∈ pb, x ≤ i + 1) := Lib.hid hbb
        clear hS2 hot hot2 hba hbb
        go_wp2_with fail
        refine (HSL.out _).mono ?_
        rintro e wa ⟨r, hr, rfl, hUa⟩
        rw [hr] at hL29
        have hr29 : r < 29 := hL29
        have HRR := Lib.hid hr
        have HTa := Lib.hid (HT4.out.upd hUa (by simp))
        have HAa := Lib.hid (HA4.out.upd hUa (by simp))
        have HBa := Lib.hid (HB4.out.upd hUa (by simp))
        have HXa := Lib.hid (HX4.out.upd hUa (by simp))
        have HYa := Lib.hid (HY4.out.upd hUa (by simp))
        have HUa := Lib.hid (HU4.out.trans (fp' := []) hUa (by simp))
        have hsa := hUa.size
        have hg4 := HT4.out.lt
        clear hr hL29 hUa HT4 HA4 HB4 HU4 HX4 HY4 t0 t1 t2 HSL
        unfold longV
        obtain ⟨xb, hxb⟩ : ∃ xb, lBits.getD r 0 = xb := ⟨_, rfl⟩
        have hxb5 : xb ≤ 5 := by rw [← hxb]; exact lBits5 ⟨r, hr29⟩
        rw [hxb]
        generalize L - lAt.getD r 0 = xm at *
        obtain ⟨c, hcc⟩ : ∃ c, 257 + r = c := ⟨_, rfl⟩
        rw [hcc]
        have HXB := Lib.hid hxb
        have HCC := Lib.hid hcc
        have hc286 : c < 286 := by omega
        clear hcc hxb
        have hTb := HTa.out.alloc (.cells #[.int .i64 (c : Nat), .int .i64 (xb : Nat), .int .i64 (xm : Nat)] 42)
        have hAb := HAa.out.alloc (.cells #[.int .i64 (c : Nat), .int .i64 (xb : Nat), .int .i64 (xm : Nat)] 42)
        have hBb := HBa.out.alloc (.cells #[.int .i64 (c : Nat), .int .i64 (xb : Nat), .int .i64 (xm : Nat)] 42)
        have hXb := HXa.out.alloc (.cells #[.int .i64 (c : Nat), .int .i64 (xb : Nat), .int .i64 (xm : Nat)] 42)
        have hYb := HYa.out.alloc (.cells #[.int .i64 (c : Nat), .int .i64 (xb : Nat), .int .i64 (xm : Nat)] 42)
        have hUb := HUa.out.alloc (.cells #[.int .i64 (c : Nat), .int .i64 (xb : Nat), .int .i64 (xm : Nat)] 42)
        have hQb := Blk.new wa [.int .i64 (c : Nat), .int .i64 (xb : Nat), .int .i64 (xm : Nat)] 42
        have hsb : (wa.alloc (.cells #[.int .i64 (c : Nat), .int .i64 (xb : Nat), .int .i64 (xm : Nat)] 42)).heap.size = wa.heap.size + 1 := World.size_alloc _ _
        clear HTa HAa HBa HXa HYa HUa
        go_upto_region 26 with fail
        change Code.wp _ _ _ _ (wa.alloc (.cells #[.int .i64 (c : Nat), .int .i64 (xb : Nat), .int .i64 (xm : Nat)] 42))
        generalize wa.alloc (.cells #[.int .i64 (c : Nat), .int .i64 (xb : Nat), .int .i64 (xm : Nat)] 42) = wb at *
        generalize wa.heap.size = s1 at *
        have t2 := hTb.cell 2 rfl
        have HAb := Lib.hid hAb
        have HBb := Lib.hid hBb
        have HXb := Lib.hid hXb
        have HYb := Lib.hid hYb
        have HUb := Lib.hid hUb
        have HQb := Lib.hid hQb
        clear hTb hAb hBb hXb hYb hUb hQb
        go_wp2_with fail
        refine (HSB.out _).mono ?_
        rintro e wd ⟨z, hz, rfl, hUd⟩
        have HZ := Lib.hid hz
        have hz30 : z < 30 := by
          obtain ⟨r, h1, h2⟩ := findD_some K hK.1 hK.2
          rw [hz] at h1
          cases h1
          exact h2
        have HAd := Lib.hid (HAb.out.upd hUd (by simp))
        have HBd := Lib.hid (HBb.out.upd hUd (by simp))
        have HXd := Lib.hid (HXb.out.upd hUd (by simp))
        have HYd := Lib.hid (HYb.out.upd hUd (by simp))
        have HUd := Lib.hid (HUb.out.trans (fp' := []) hUd (by simp))
        have HQd := Lib.hid (HQb.out.upd hUd (by simp))
        have hsd := hUd.size
        clear hz hUd HAb HBb HXb HYb HUb HQb t2 HSB
        unfold backV
        obtain ⟨zb, hzb⟩ : ∃ zb, dBt z = zb := ⟨_, rfl⟩
        have hzb15 : zb ≤ 15 := by rw [← hzb]; unfold dBt; omega
        rw [hzb]
        have HZB := Lib.hid hzb
        clear hzb
        generalize K - dAt.getD z 0 = zm at *
        have hAe := HAd.out.alloc (.cells #[.int .i64 (z : Nat), .int .i64 (zb : Nat), .int .i64 (zm : Nat)] 42)
        have hBe := HBd.out.alloc (.cells #[.int .i64 (z : Nat), .int .i64 (zb : Nat), .int .i64 (zm : Nat)] 42)
        have hXe := HXd.out.alloc (.cells #[.int .i64 (z : Nat), .int .i64 (zb : Nat), .int .i64 (zm : Nat)] 42)
        have hYe := HYd.out.alloc (.cells #[.int .i64 (z : Nat), .int .i64 (zb : Nat), .int .i64 (zm : Nat)] 42)
        have hUe := HUd.out.alloc (.cells #[.int .i64 (z : Nat), .int .i64 (zb : Nat), .int .i64 (zm : Nat)] 42)
        have hQe := HQd.out.alloc (.cells #[.int .i64 (z : Nat), .int .i64 (zb : Nat), .int .i64 (zm : Nat)] 42)
        have hRe := Blk.new wd [.int .i64 (z : Nat), .int .i64 (zb : Nat), .int .i64 (zm : Nat)] 42
        clear HAd HBd HXd HYd HUd HQd
        go_upto_region 27 with fail
        change Code.wp _ _ _ _ (wd.alloc (.cells #[.int .i64 (z : Nat), .int .i64 (zb : Nat), .int .i64 (zm : Nat)] 42))
        generalize wd.alloc (.cells #[.int .i64 (z : Nat), .int .i64 (zb : Nat), .int .i64 (zm : Nat)] 42) = we at *
        generalize wd.heap.size = s2 at *
        have hgt := padA_get pa c (by omega)
        have hgb := padB_get pb z (by omega)
        have hle : pa.getD c 0 ≤ i + 1 := getD_le hHA.out c
        have hlz : pb.getD z 0 ≤ i + 1 := getD_le hHB.out z
        have hgx := getD_some (show c < xs.length by rw [HXL.out]; exact hc286)
        have hgy := getD_some (show z < ys.length by rw [HYL.out]; exact hz30)
        have hx15 := getD_le HX15.out c
        have hy15 := getD_le HY15.out z
        have HADp : Hid ((padA pa).set c (pa.getD c 0 + 1) = padA (addAt pa c)) := Lib.hid (by
          rw [← padA_add pa c (by omega)]
          unfold addAt
          rw [List.getD_eq_getElem?_getD (l := padA pa), hgt]
          rfl)
        have HBDp : Hid ((padB pb).set z (pb.getD z 0 + 1) = padB (addAt pb z)) := Lib.hid (by
          rw [← padB_add pb z (by omega)]
          unfold addAt
          rw [List.getD_eq_getElem?_getD (l := padB pb), hgb]
          rfl)
        have HS3 : Hid (manyF (l.take (i + 1)) = (addAt pa c, addAt pb z)) := Lib.hid (by rw [HST.out, HS2.out, HRR.out, HZ.out, ← HCC.out]; rfl)
        have HN3 : Hid (bitsOf (ints xs) (ints ys) (l.take (i + 1)) = N + ((xs.getD c 0 + xb + ys.getD z 0 + zb : Nat) : Int)) := Lib.hid (by rw [HBS.out, HTF.out r z HRR.out HZ.out, HCC.out, HXB.out, HZB.out])
        have ca := hAe.cell c (i64s_get (padA pa) c _ hgt)
        have fa := hAe.frz c
        have q0 := hQe.cell 0 rfl
        generalize pa.getD c 0 = y at *
        generalize pb.getD z 0 = yb at *
        have hwy : IntKind.i64.wrap ((y : Int) + 1) = (y : Int) + 1 := IntWalk.i64_in _ (by omega)
        have hwb : IntKind.i64.wrap ((yb : Int) + 1) = (yb : Int) + 1 := IntWalk.i64_in _ (by omega)
        have hcz2 : (c : Int) < 290 := by omega
        have hcz3 : (c : Int) < 286 := by omega
        have hzz : (z : Int) < 290 := by omega
        have hzz3 : (z : Int) < 30 := by omega
        have hAf := hAe.set c (.int .i64 ((y : Int) + 1))
        have hBf := hBe.setFar (a := ⟨g7, c, none⟩) (.int .i64 ((y : Int) + 1)) (by simp)
        have hRf := hRe.setFar (a := ⟨g7, c, none⟩) (.int .i64 ((y : Int) + 1)) (by show s2 ≠ g7; omega)
        have hQf := hQe.setFar (a := ⟨g7, c, none⟩) (.int .i64 ((y : Int) + 1)) (by show s1 ≠ g7; omega)
        have hXf := hXe.setFar (a := ⟨g7, c, none⟩) (.int .i64 ((y : Int) + 1)) (by show oa ≠ g7; omega)
        have hYf := hYe.setFar (a := ⟨g7, c, none⟩) (.int .i64 ((y : Int) + 1)) (by show ob ≠ g7; omega)
        have r0 := hRf.cell 0 rfl
        have cb := hBf.cell z (i64s_get (padB pb) z _ hgb)
        have fb := hBf.frz z
        have HA10 : Hid (Blk ((we.setCell ⟨g7, c, none⟩ (.int .i64 ((y : Int) + 1))).setCell ⟨g7 + 1, z, none⟩ (.int .i64 ((yb : Int) + 1))) g7 (i64s (padA (manyF (l.take (i + 1))).1)) 38) := Lib.hid (by
          rw [HS3.out]
          dsimp only
          rw [← HADp.out, i64s_set]
          exact hAf.setFar (a := ⟨g7 + 1, z, none⟩) _ (by simp))
        have HB10 : Hid (Blk ((we.setCell ⟨g7, c, none⟩ (.int .i64 ((y : Int) + 1))).setCell ⟨g7 + 1, z, none⟩ (.int .i64 ((yb : Int) + 1))) (g7 + 1) (i64s (padB (manyF (l.take (i + 1))).2)) 38) := Lib.hid (by
          rw [HS3.out]
          dsimp only
          rw [← HBDp.out, i64s_set]
          exact hBf.set z _)
        have HU10 := Lib.hid ((hUe.setCell (p := ⟨g7, c, none⟩) (.inl (by simp)) (.int .i64 ((y : Int) + 1))).setCell (p := ⟨g7 + 1, z, none⟩) (.inl (by simp)) (.int .i64 ((yb : Int) + 1)))
        have hX10 := hXf.setFar (a := ⟨g7 + 1, z, none⟩) (.int .i64 ((yb : Int) + 1)) (by show oa ≠ g7 + 1; omega)
        have hY10 := hYf.setFar (a := ⟨g7 + 1, z, none⟩) (.int .i64 ((yb : Int) + 1)) (by show ob ≠ g7 + 1; omega)
        have hQ10 := hQf.setFar (a := ⟨g7 + 1, z, none⟩) (.int .i64 ((yb : Int) + 1)) (by show s1 ≠ g7 + 1; omega)
        have hR10 := hRf.setFar (a := ⟨g7 + 1, z, none⟩) (.int .i64 ((yb : Int) + 1)) (by show s2 ≠ g7 + 1; omega)
        have HX10 := Lib.hid hX10
        have HY10 := Lib.hid hY10
        have HQ10 := Lib.hid hQ10
        have HR10 := Lib.hid hR10
        clear hX10 hY10 hQ10 hR10 hAe hBe hUe hQe hRe hAf hBf hRf hQf hXf hYf hXe hYe hgt hgb hla hlb HMk
        go_upto_region 29 with fail
        change Code.wp _ _ _ _ ((we.setCell ⟨g7, c, none⟩ (.int .i64 ((y : Int) + 1))).setCell ⟨g7 + 1, z, none⟩ (.int .i64 ((yb : Int) + 1)))
        generalize (we.setCell ⟨g7, c, none⟩ (.int .i64 ((y : Int) + 1))).setCell ⟨g7 + 1, z, none⟩ (.int .i64 ((yb : Int) + 1)) = wf at *
        clear ca fa q0 r0 cb fb hwy hwb
        have x1 := HX10.out.cell c (i64s_get xs c _ hgx)
        have y1 := HY10.out.cell z (i64s_get ys z _ hgy)
        have q0 := HQ10.out.cell 0 rfl
        have q1 := HQ10.out.cell 1 rfl
        have p0 := HR10.out.cell 0 rfl
        have p1 := HR10.out.cell 1 rfl
        generalize xs.getD c 0 = xv at *
        generalize ys.getD z 0 = yv at *
        obtain ⟨e1, he1⟩ : ∃ e, xv + xb = e := ⟨_, rfl⟩
        obtain ⟨e2, he2⟩ : ∃ e, e1 + yv = e := ⟨_, rfl⟩
        obtain ⟨e3, he3⟩ : ∃ e, e2 + zb = e := ⟨_, rfl⟩
        have hwa : IntKind.i64.wrap ((xv : Int) + (xb : Int)) = (e1 : Int) := by rw [IntWalk.i64_in _ (by omega)]; omega
        have hwb : IntKind.i64.wrap ((e1 : Int) + (yv : Int)) = (e2 : Int) := by rw [IntWalk.i64_in _ (by omega)]; omega
        have hwc : IntKind.i64.wrap ((e2 : Int) + (zb : Int)) = (e3 : Int) := by rw [IntWalk.i64_in _ (by omega)]; omega
        have hwd : IntKind.i64.wrap (N + (e3 : Int)) = N + (e3 : Int) := IntWalk.i64_in _ (by omega)
        have HN4 : Hid (bitsOf (ints xs) (ints ys) (l.take (i + 1)) = N + (e3 : Int)) := Lib.hid (by rw [HN3.out, he1, he2, he3])
        clear he1 he2 he3 hgx hgy
        go_wp2
        go_quiet (fail)
        go_wp2
        go_roundg (200000 - (i + 1))
        · exact ⟨i + 1, by omega, by first | rfl | omega, by first | rfl | go_num, by rw [HN4.out], Lib.hid (HA10.out.drewN _), Lib.hid (HB10.out.drewN _), Lib.hid (HU10.out.drewN _)⟩
        · omega
    · have hcz : ¬ (i : Int) < (n : Int) := by omega
      obtain rfl : i = n := by omega
      have htk : l.take i = l := List.take_of_length_le (by rw [HLN.out]; exact Nat.le_refl _)
      rw [htk] at HA HB ⊢
      have hNb := HBT.out i (by rw [HLN.out]; exact Nat.le_refl _)
      rw [htk] at hNb
      have HMF := Lib.hid (HMO.out i (by rw [HLN.out]; exact Nat.le_refl _))
      rw [htk] at HMF
      clear htk
      have HUw := Lib.hid hUw
      have HXw := Lib.hid (HX3.out.upd HU.out (by simp; omega))
      have HYw := Lib.hid (HY3.out.upd HU.out (by simp; omega))
      have HBD := Lib.hid (body_any l (ints xs) (ints ys) a (some ⟨oa, 0, none⟩) (some ⟨ob, 0, none⟩) i cap 286 286 30 30)
      have HBE : Hid (bodyI (ints xs) (ints ys) (manyF l) = bitsOf (ints xs) (ints ys) l) := Lib.hid (bodyI_bits _ _ (ints_in15 HX15.out) (ints_in15 HY15.out) l (by rw [HLN.out]; omega) HOK.out)
      unfold BodyP at HBD
      rw [HBE.out] at HBD
      have HMA := Lib.hid (many_any l a i cap wr (HI.out.pure hUw) (by omega) HOK.out)
      unfold ManyP at HMA
      generalize bitsOf (ints xs) (ints ys) l = N at *
      generalize manyF l = p at *
      obtain ⟨pa, pb⟩ := p
      dsimp only at HA HB HMA
      clear hUw HX3 HY3 HU
      go_wp2_with fail
      refine HMA.out.mono ?_
      rintro e w7 ⟨oc, od, rfl, hC, hD, _, _, _, hU7⟩
      have HC := Lib.hid hC
      have HD := Lib.hid hD
      have HA7 := Lib.hid (HA.out.upd hU7 (by simp))
      have HB7 := Lib.hid (HB.out.upd hU7 (by simp))
      have HX7 := Lib.hid (HXw.out.upd hU7 (by simp))
      have HY7 := Lib.hid (HYw.out.upd hU7 (by simp))
      have HU7 := Lib.hid (HUw.out.then hU7)
      have hla : pa.length = 286 := HMF.out.la
      have hlb : pb.length = 30 := HMF.out.lb
      clear hC hD hU7 HA HB HXw HYw HUw HMA HMF
      go_wp2
      go_loopg [163] 1000 (fun gg s163 wr => ∃ k : Nat, k ≤ 286 ∧ gg = 1000 - k ∧ s163 = .int .i64 (k : Nat) ∧ Hid (Upd [] w7 wr))
      case atStart => exact ⟨0, by omega, by omega, rfl, Lib.hid (Upd.refl _ _)⟩
      case round =>
      obtain ⟨k, hk, rfl, rfl, HU⟩ := hrel
      by_cases hkc : k < 286
      · have hkz : (k : Int) < 286 := by omega
        have hkz2 : (k : Int) < 290 := by omega
        have hw1 : IntKind.i64.wrap ((k : Int) + 1) = ((k + 1 : Nat) : Int) := by rw [IntWalk.i64_in _ (by omega)]; rfl
        have c1 := (HC.out.upd HU.out (by simp)).cell k (i64s_get pa k _ (getD_some (by omega)))
        have c2 := (HA7.out.upd HU.out (by simp)).cell k (i64s_get (padA pa) k _ (padA_get pa k (by omega)))
        generalize pa.getD k 0 = y at *
        have hne : ((y : Int) != (y : Int)) = false := by simp
        go_wp2
        go_quiet (fail)
        go_wp2
        go_roundg (1000 - (k + 1))
        · exact ⟨k + 1, by omega, by first | rfl | omega, by first | rfl | go_num, Lib.hid (HU.out.drewN _)⟩
        · omega
      · have hkz : ¬ (k : Int) < 286 := by omega
        obtain rfl : k = 286 := by omega
        obtain ⟨w8, hw8⟩ : ∃ W : World, W = wr := ⟨_, rfl⟩
        subst hw8
        have HU8 := HU
        go_wp2
        go_loopg [177] 1000 (fun gg s177 wr => ∃ k : Nat, k ≤ 30 ∧ gg = 1000 - k ∧ s177 = .int .i64 (k : Nat) ∧ Hid (Upd [] w7 wr))
        case atStart => exact ⟨0, by omega, by omega, rfl, HU8⟩
        case round =>
        clear HU HU8
        obtain ⟨k, hk, rfl, rfl, HU⟩ := hrel
        by_cases hkc : k < 30
        · have hkz : (k : Int) < 30 := by omega
          have hkz2 : (k : Int) < 290 := by omega
          have hw1 : IntKind.i64.wrap ((k : Int) + 1) = ((k + 1 : Nat) : Int) := by rw [IntWalk.i64_in _ (by omega)]; rfl
          have c1 := (HD.out.upd HU.out (by simp)).cell k (i64s_get pb k _ (getD_some (by omega)))
          have c2 := (HB7.out.upd HU.out (by simp)).cell k (i64s_get (padB pb) k _ (padB_get pb k (by omega)))
          generalize pb.getD k 0 = y at *
          have hne : ((y : Int) != (y : Int)) = false := by simp
          go_wp2
          go_quiet (fail)
          go_wp2
          go_roundg (1000 - (k + 1))
          · exact ⟨k + 1, by omega, by first | rfl | omega, by first | rfl | go_num, Lib.hid (HU.out.drewN _)⟩
          · omega
        · have hkz : ¬ (k : Int) < 30 := by omega
          obtain rfl : k = 30 := by omega
          have hXi : IntsIn wr (some ⟨oa, 0, none⟩) 286 (ints xs) := IntsIn.blk (HX7.out.upd HU.out (by simp)) HXL.out (fun x hx => by have := HX15.out x hx; omega)
          have hYi : IntsIn wr (some ⟨ob, 0, none⟩) 30 (ints ys) := IntsIn.blk (HY7.out.upd HU.out (by simp)) HYL.out (fun x hx => by have := HY15.out x hx; omega)
          have HBO := Lib.hid (HBD.out wr (HI.out.pure (HU7.out.then HU.out)) (by omega) HOK.out hXi hYi (by omega) (by omega))
          have HUf := Lib.hid (HU7.out.then HU.out)
          clear hXi hYi HBD
          have hNN : (N == N) = true := by simp
          go_wp2_with fail
          refine HBO.out.mono ?_
          rintro e w9 ⟨rfl, hU9⟩
          have HU9 := Lib.hid (HUf.out.then hU9)
          clear hU9 HBO
          go_wp2_with fail
          refine (lives10_any _).mono ?_
          rintro e w10 ⟨rfl, hU10⟩
          have HU10 := Lib.hid (HU9.out.then hU10)
          clear hU10
          go_wp2
          go_ret
          exact ⟨rfl, HU10.out⟩
end Go.Proofs.Ytdehkaknbmbieaa

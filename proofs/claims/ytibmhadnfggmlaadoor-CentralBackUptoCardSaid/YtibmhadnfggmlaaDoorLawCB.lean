/- The law swinglelaw20.CentralBack: its walk. -/
import Derived.Test.YtibmhadnfggmlaaDoorCPrint
import Derived.Test.YtibmhadnfggmlaaDoorRRightB
import Derived.Test.YtibmhadnfggmlaaDoorGL
namespace Go.Proofs.YtibmhadnfggmlaaDoor
set_option linter.unusedVariables false
set_option linter.unusedSimpArgs false
set_option linter.unusedSectionVars false
open Go.RowKit
set_option linter.unusedVariables false

/-- How many bytes records have. -/
def csum (l : List RecD) : Nat := (cflat l).length
theorem csum_snoc (l : List RecD) (r : RecD) : csum (l ++ [r]) = csum l + (46 + (nameP r.k r.p).length) := by
  unfold csum
  rw [cflat_append, List.length_append]
  congr 1
  simp [cflat, cheadP_len]
theorem twiceB_snoc_no (l : List RecD) (i : Nat) (hi : i < l.length) (h : twiceB (l.take i) = false) (hn : ∀ k, k < i → ∀ x, l[k]? = some x → bytesOf x.p ≠ bytesOf l[i].p) : twiceB (l.take (i + 1)) = false :=
  twiceB_step l i hi h (fun k hk => hn k hk _ (List.getElem?_eq_getElem _))
/-- What is known of the records behind the first loop. -/
def CGood (l : List RecD) (i : Nat) : Prop := (∀ r ∈ l.take i, r.Fits ∧ recErr r = 0) ∧ twiceB (l.take i) = false
set_option maxRecDepth 100000 in
set_option maxHeartbeats 12800000 in
theorem law_centralBack (l : List RecD) (v : Value) (w : World) (hA : RecsAt w v l) (hl : ∀ r ∈ l, r.p.size ≤ 1050000 ∧ r.sum < 4294967296 ∧ r.t < 4294967296) (hlen : l.length ≤ 9223372036854775807) (hcap : ∀ a n c, v = .slice a n c → n ≤ c) :
    Calls Tryd.prog 11 #[v] w fun e w' => e = .returned (.bool true) ∧ Upd [] w w' := by
  have HLV := Lib.hid (fun w => lives20_any w)
  have HA := Lib.hid hA
  obtain ⟨a, cap, rfl, h⟩ := hA
  have hcp := hcap _ _ _ rfl
  clear hcap
  have H := Lib.hid h
  have HF := Lib.hid hl
  clear h hl
  obtain ⟨n, hnn⟩ : ∃ n, l.length = n := ⟨_, rfl⟩
  rw [hnn] at hlen HA hcp ⊢
  have HN := Lib.hid hnn
  clear hnn
  by_cases h12 : 12 < n
  · have h12z : (12 : Int) < (n : Int) := by omega
    go_enter Tryd.func11, Tryd.ntmps11
    go_wp2_with fail
    refine (HLV.out _).mono ?_
    rintro e w5 ⟨rfl, hU5⟩
    go_wp2
    go_ret
    exact ⟨rfl, hU5⟩
  · have h12z : ¬ (12 : Int) < (n : Int) := by omega
    go_enter Tryd.func11, Tryd.ntmps11
    go_wp2
    go_loopg [3, 23] n (fun gg s3 s23 wr => ∃ i, i ≤ n ∧ gg = n - i ∧ s23 = .int .i64 (i : Nat) ∧ s3 = .int .i64 (csum (l.take i) : Nat) ∧ csum (l.take i) ≤ i * 300 ∧ Hid (CGood l i) ∧ Hid (Upd [] w wr))
    case atStart => exact ⟨0, Nat.zero_le _, rfl, rfl, rfl, Nat.zero_le _, Lib.hid ⟨(fun r hr => by simp at hr), rfl⟩, Lib.hid (Upd.refl _ _)⟩
    case round =>
      obtain ⟨i, hin, rfl, rfl, rfl, hcs, HG, HU⟩ := hrel
      by_cases hc : i < n
      · have hcz : (i : Int) < (n : Int) := by omega
        have hil : i < l.length := by rw [HN.out]; exact hc
        obtain ⟨b1, o1, rfl, g1⟩ := H.out i hil
        obtain ⟨r, hr⟩ : ∃ r, r = l[i] := ⟨_, rfl⟩
        have hm := HF.out r (by rw [hr]; exact List.getElem_mem hil)
        have HRT := Lib.hid (fun w => rright19_all r w hm.1 hm.2.1 hm.2.2)
        rw [← hr] at g1
        have hlt : ∀ f u, r.cells[f]? = some u → wr.cell? ⟨b1, o1 + i * 9 + f, none⟩ = some u := fun f u hu => (HU.out.cell (p := ⟨b1, _, none⟩) (cell_lt (g1 f u hu)) (by simp)).trans (g1 f u hu)
        have HCS : Hid (csum (l.take (i + 1)) = csum (l.take i) + (46 + (nameP r.k r.p).length)) := Lib.hid (by rw [List.take_succ_eq_append_getElem hil, csum_snoc, ← hr])
        have HSZ := Lib.hid (fun h => csize_any r (h := h))
        have HGN : Hid (recErr r = 0 → (∀ k, k < i → ∀ x, l[k]? = some x → bytesOf x.p ≠ bytesOf r.p) → CGood l (i + 1)) := Lib.hid (fun h1 h2 => ⟨fun x hx => by
          rw [List.take_succ_eq_append_getElem hil] at hx
          rcases List.mem_append.1 hx with h | h
          · exact HG.out.1 x h
          · rw [List.mem_singleton.1 h, ← hr]; exact ⟨⟨by have := recErr_len h1; omega, hm.2.1, hm.2.2⟩, h1⟩, twiceB_snoc_no l i hil HG.out.2 (by rw [← hr]; exact h2)⟩)
        have HLN : Hid (recErr r = 0 → (nameP r.k r.p).length ≤ 201 ∧ r.Fits) := Lib.hid (fun h1 => ⟨by have := recErr_len h1; have := nameP_len r.k r.p; omega, by have := recErr_len h1; omega, hm.2.1, hm.2.2⟩)
        have HR := Lib.hid hr
        clear hr hm g1
        generalize hcsd : csum (l.take i) = cs at *
        have HCSD := Lib.hid hcsd
        clear hcsd
        obtain ⟨p, m, sum, le, wh, k, md, t, pos⟩ := r
        unfold RecD.v at HRT HSZ
        dsimp only at HRT HSZ HLN HGN HCS
        generalize recErr (⟨p, m, sum, le, wh, k, md, t, pos⟩ : RecD) = er at *
        generalize (nameP k p).length = nl at *
        have c0 := hlt 0 (.string p) rfl
        have c1 := hlt 1 (.int .i64 m) rfl
        have c2 := hlt 2 (.int .u32 (sum : Nat)) rfl
        have c3 := hlt 3 (.int .i64 le) rfl
        have c4 := hlt 4 (.int .i64 wh) rfl
        have c5 := hlt 5 (.int .i64 k) rfl
        have c6 := hlt 6 (.int .i64 md) rfl
        have c7 := hlt 7 (.int .u32 (t : Nat)) rfl
        have c8 := hlt 8 (.int .i64 pos) rfl
        simp only [Nat.add_zero] at c0
        clear hlt
        have HQ := Lib.hid (Blk.new wr [.string p, .int .i64 m, .int .u32 (sum : Nat), .int .i64 le, .int .i64 wh, .int .i64 k, .int .i64 md, .int .u32 (t : Nat), .int .i64 pos] 51)
        have HU1 := Lib.hid (HU.out.alloc (.cells #[.string p, .int .i64 m, .int .u32 (sum : Nat), .int .i64 le, .int .i64 wh, .int .i64 k, .int .i64 md, .int .u32 (t : Nat), .int .i64 pos] 51))
        clear HU
        go_wp2_with fail
        generalize wr.heap.size = q at *
        refine (HRT.out _).mono ?_
        rintro e w1 ⟨rfl, hu1⟩
        have HQ1 := Lib.hid (HQ.out.upd hu1 (by simp))
        have HU2 := Lib.hid (HU1.out.then hu1)
        clear c0 c1 c2 c3 c4 c5 c6 c7 c8 HQ HU1 hu1
        by_cases he : er = 0
        rotate_left
        · have te : ((er : Int) != 0) = true := by rw [bne_iff_ne]; omega
          go_wp2_with fail
          refine (HLV.out _).mono ?_
          rintro e w5 ⟨rfl, hU5⟩
          go_wp2
          go_ret
          exact ⟨rfl, HU2.out.then hU5⟩
        · subst he
          have hin0 : (0 : Int) ≤ (i : Int) := by omega
          have hin1 : (i : Int) ≤ (cap : Int) := by omega
          have hin2 : i ≤ cap := by omega
          go_wp2
          go_loopg [36] i (fun gg s36 wq => ∃ j, j ≤ i ∧ gg = i - j ∧ s36 = .int .i64 (j : Nat) ∧ Hid (∀ k2, k2 < j → ∀ x, l[k2]? = some x → bytesOf x.p ≠ bytesOf p) ∧ Hid (Upd [] w wq) ∧ Hid (Blk wq q [.string p, .int .i64 m, .int .u32 (sum : Nat), .int .i64 le, .int .i64 wh, .int .i64 k, .int .i64 md, .int .u32 (t : Nat), .int .i64 pos] 51))
          case atStart => exact ⟨0, Nat.zero_le _, rfl, rfl, Lib.hid (fun k2 h2 => by omega), HU2, HQ1⟩
          case round =>
            clear HU2 HQ1
            obtain ⟨j, hjn, rfl, rfl, HK, HUq, HQq⟩ := hrel
            by_cases hj : j < i
            · have hjz : (j : Int) < (i : Int) := by omega
              have hjl : j < l.length := by rw [HN.out]; omega
              obtain ⟨b2, o2, hb2, g2⟩ := H.out j hjl
              simp only [Option.some.injEq, Addr.mk.injEq, and_true] at hb2
              obtain ⟨rfl, rfl⟩ := hb2
              obtain ⟨y, hy⟩ : ∃ y, y = l[j] := ⟨_, rfl⟩
              rw [← hy] at g2
              have hlt2 : ∀ f u, y.cells[f]? = some u → wr.cell? ⟨b1, o1 + j * 9 + f, none⟩ = some u := fun f u hu => (HUq.out.cell (p := ⟨b1, _, none⟩) (cell_lt (g2 f u hu)) (by simp)).trans (g2 f u hu)
              have HY := Lib.hid hy
              clear hy g2
              obtain ⟨p2, m2, sum2, le2, wh2, k2, md2, t2, pos2⟩ := y
              have d0 := hlt2 0 (.string p2) rfl
              have d1 := hlt2 1 (.int .i64 m2) rfl
              have d2 := hlt2 2 (.int .u32 (sum2 : Nat)) rfl
              have d3 := hlt2 3 (.int .i64 le2) rfl
              have d4 := hlt2 4 (.int .i64 wh2) rfl
              have d5 := hlt2 5 (.int .i64 k2) rfl
              have d6 := hlt2 6 (.int .i64 md2) rfl
              have d7 := hlt2 7 (.int .u32 (t2 : Nat)) rfl
              have d8 := hlt2 8 (.int .i64 pos2) rfl
              simp only [Nat.add_zero] at d0
              clear hlt2
              have z0 := HQq.out.alloc (.cells #[.string p2, .int .i64 m2, .int .u32 (sum2 : Nat), .int .i64 le2, .int .i64 wh2, .int .i64 k2, .int .i64 md2, .int .u32 (t2 : Nat), .int .i64 pos2] 51) |>.cell 0 rfl
              have HUa := Lib.hid (HUq.out.alloc (.cells #[.string p2, .int .i64 m2, .int .u32 (sum2 : Nat), .int .i64 le2, .int .i64 wh2, .int .i64 k2, .int .i64 md2, .int .u32 (t2 : Nat), .int .i64 pos2] 51))
              have HQa := Lib.hid (HQq.out.alloc (.cells #[.string p2, .int .i64 m2, .int .u32 (sum2 : Nat), .int .i64 le2, .int .i64 wh2, .int .i64 k2, .int .i64 md2, .int .u32 (t2 : Nat), .int .i64 pos2] 51))
              clear HUq HQq
              by_cases he : p2.toList = p.toList
              · have t1 : (p2.toList == p.toList) = true := by rw [beq_iff_eq]; exact he
                go_wp2_with fail
                refine (HLV.out _).mono ?_
                rintro e w5 ⟨rfl, hU5⟩
                go_wp2
                go_ret
                exact ⟨rfl, HUa.out.then hU5⟩
              · have t1 : (p2.toList == p.toList) = false := by rw [beq_eq_false_iff_ne]; exact he
                have HNE : Hid (bytesOf p2 ≠ bytesOf p) := Lib.hid (fun e => he ((toList_iff _ _).2 e))
                go_wp2
                go_roundg (i - (j + 1))
                · refine ⟨j + 1, by omega, rfl, by first | rfl | go_num, Lib.hid (fun k3 h3 x hx => ?_), HUa, HQa⟩
                  rcases (by omega : k3 < j ∨ k3 = j) with h4 | rfl
                  · exact HK.out k3 h4 x hx
                  · have e1 : x = l[k3] := (List.getElem?_eq_some_iff.1 hx).2.symm
                    rw [e1, ← HY.out]; exact HNE.out
                · omega
            · have hjz : ¬ (j : Int) < (i : Int) := by omega
              have hji : j = i := by omega
              subst hji
              have hln := HLN.out (by trivial)
              have HSZ2 := Lib.hid (HSZ.out hln.2)
              have hnl := hln.1
              have HG2 := Lib.hid (HGN.out (by trivial) HK.out)
              clear hln
              have c0 := HQq.out.cell 0 rfl
              have c1 := HQq.out.cell 1 rfl
              have c2 := HQq.out.cell 2 rfl
              have c3 := HQq.out.cell 3 rfl
              have c4 := HQq.out.cell 4 rfl
              have c5 := HQq.out.cell 5 rfl
              have c6 := HQq.out.cell 6 rfl
              have c7 := HQq.out.cell 7 rfl
              have c8 := HQq.out.cell 8 rfl
              go_wp2_with fail
              refine (HSZ2.out _).mono ?_
              rintro e w3 ⟨rfl, hu3⟩
              have HU3 := Lib.hid (HUq.out.then hu3)
              clear HUq hu3 HQq HK c0 c1 c2 c3 c4 c5 c6 c7 c8
              go_wp2
              go_roundg (n - (j + 1))
              · exact ⟨j + 1, by omega, rfl, by first | rfl | go_num, by rw [HCS.out]; first | rfl | go_num, by rw [HCS.out]; omega, HG2, HU3⟩
              · omega
      · have hcz : ¬ (i : Int) < (n : Int) := by omega
        have hin2 : i = n := by omega
        subst hin2
        have HT : Hid (l.take i = l) := Lib.hid (List.take_of_length_le (by rw [HN.out]; omega))
        unfold CGood at HG
        rw [HT.out] at HG hcs ⊢
        have hfit := HG.out.1
        have hbs : bytesOf (strOf (cflat l)) = cflat l := bytesOf_strOf _ (cflat_lt l)
        have HP := Lib.hid (fun w h => cenPrint_any l (.slice a i cap) w h hfit (by rw [HN.out]; omega))
        have hSs : (strOf (cflat l)).size = csum l := by rw [size_strOf]; rfl
        obtain ⟨S, hS⟩ : ∃ S, S = strOf (cflat l) := ⟨_, rfl⟩
        rw [← hS] at HP hbs hSs
        clear hS
        have hSb : S.size ≤ 3600 := by omega
        have E1 := back_all l S hbs hfit HG.out.2
        have E2 := back_end l S hbs hfit
        have E3 := fun h0 => back_more l S hbs hfit h0
        have E4 := fun h0 => back_twice l S hbs hfit h0
        rw [HN.out] at E1 E2 E3 E4
        rw [show ((i + 1 : Nat) : Int) = (i : Int) + 1 by omega] at E2
        have HA1 := Lib.hid (fun w => cenAll_any S (i : Nat) w (by omega) (by omega))
        rw [E1] at HA1
        have HA2 := Lib.hid (fun w => cenAll_any S ((i : Int) + 1) w (by omega) (by omega))
        unfold callV at HA1 HA2
        rw [E2] at HA2
        dsimp only at HA1
        have hSz : (S.size : Int) = (csum l : Int) := by omega
        have hbn : ((S.size : Int) != (csum l : Int)) = false := by rw [bne_eq_false_iff_eq]; exact hSz
        have HSM := Lib.hid (fun v1 v2 w h1 h2 => same20_any l v1 v2 w h1 h2 (by rw [HN.out]; omega))
        clear E1 E2 hfit hSs hbs HG HF
        generalize csum l = cs at *
        go_wp2_with fail
        refine (HP.out _ (HA.out.upd HU.out)).mono ?_
        rintro e w1 ⟨rfl, hu1⟩
        have HU1 := Lib.hid (HU.out.then hu1)
        clear HU hu1
        go_wp2_with fail
        refine (HA1.out _).mono ?_
        rintro e w2 ⟨⟨v2, rfl, hr2⟩, hu2⟩
        have HU2 := Lib.hid (HU1.out.then hu2)
        have HR2 := Lib.hid hr2
        clear HU1 hu2 hr2
        go_wp2_with fail
        refine (HA2.out _).mono ?_
        rintro e w3 ⟨⟨v3, rfl, _⟩, hu3⟩
        have HU3 := Lib.hid (HU2.out.then hu3)
        have HR3 := Lib.hid (HR2.out.upd hu3 (by simp))
        clear HU2 hu3 HR2
        go_wp2_with fail
        refine (HSM.out _ _ _ HR3.out.recsAt (HA.out.upd HU3.out)).mono ?_
        rintro e w4 ⟨rfl, hu4⟩
        have HU4 := Lib.hid (HU3.out.then hu4)
        clear HU3 hu4 HR3
        by_cases h0 : 0 < i
        · have h0z : (0 : Int) < (i : Int) := by omega
          have e3 := E3 h0
          have e4 := E4 h0
          rw [show ((i - 1 : Nat) : Int) = (i : Int) - 1 by omega] at e3
          rw [show ((2 * i : Nat) : Int) = 2 * (i : Int) by omega] at e4
          have hSS : (S ++ S).size ≤ 1000000 := by rw [ByteArray.size_append]; omega
          have HA3 := Lib.hid (fun w => cenAll_any S ((i : Int) - 1) w (by omega) (by omega))
          have HA4 := Lib.hid (fun w => cenAll_any (S ++ S) (2 * (i : Int)) w hSS (by omega))
          unfold callV at HA3 HA4
          rw [e3] at HA3
          rw [e4] at HA4
          clear e3 e4 E3 E4 hSS
          go_wp2_with fail
          refine (HA3.out _).mono ?_
          rintro e w5 ⟨⟨v5, rfl, _⟩, hu5⟩
          have HU5 := Lib.hid (HU4.out.then hu5)
          clear HU4 hu5
          go_wp2_with fail
          refine (HA4.out _).mono ?_
          rintro e w6 ⟨⟨v6, rfl, _⟩, hu6⟩
          have HU6 := Lib.hid (HU5.out.then hu6)
          clear HU5 hu6
          go_wp2_with fail
          refine (HLV.out _).mono ?_
          rintro e w7 ⟨rfl, hU7⟩
          go_wp2
          go_ret
          exact ⟨rfl, HU6.out.then hU7⟩
        · have h0z : ¬ (0 : Int) < (i : Int) := by omega
          clear E3 E4
          go_wp2_with fail
          refine (HLV.out _).mono ?_
          rintro e w7 ⟨rfl, hU7⟩
          go_wp2
          go_ret
          exact ⟨rfl, HU4.out.then hU7⟩
end Go.Proofs.YtibmhadnfggmlaaDoor

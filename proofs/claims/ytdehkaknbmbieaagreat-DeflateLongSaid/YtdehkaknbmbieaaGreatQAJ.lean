/- Package lens: fill: its walk. -/
import Derived.Laws.EntriesVeiled
import Derived.Test.YtdehkaknbmbieaaGreatQAG
import Derived.Test.YtdehkaknbmbieaaGreatMerg
import Derived.Test.YtdehkaknbmbieaaGreatPkd
import Derived.Sort.Grow
import Derived.Test.YtdehkaknbmbieaaGreatQAF
namespace Go.Proofs.YtdehkaknbmbieaaGreat
set_option linter.unusedVariables false
set_option linter.unusedSimpArgs false
set_option linter.unusedSectionVars false
open Go.RowKit
set_option linter.unusedVariables false
set_option linter.unusedSimpArgs false

theorem newsP (w : World) (cs : Array Value) (t : TypeId) (p : Value) (e : TypeId) (hp : p.oneCell' = true) : ∀ j u, [p][j]? = some u → ((w.alloc (.cells cs t)).alloc (.cells #[p] e)).cell? ((⟨w.heap.size + 1, 0, none⟩ : Addr).add j) = some u := newsC w cs t p e hp
theorem OwnC.base {w0 w1 w : World} {v : Value} {xs : List Value} (h : OwnC w1 w v xs) (hs : w0.heap.size ≤ w1.heap.size) : OwnC w0 w v xs := ⟨h.1, fun k hk => Nat.le_trans hs (h.2 k hk)⟩
theorem lvsKeep {w w' : World} {ps : List Value} {many : List Int} {u fp : List Nat} (h : CoinsAt w ps (lvs many u)) (hU : Upd fp w w') (hf : ∀ b cs, Blk w b cs 168 → b ∉ fp) : CoinsAt w' ps (lvs many u) :=
  ⟨h.1, fun i p c h1 h2 => by
    have h3 := h.2 i p c h1 h2
    obtain ⟨s, _, rfl⟩ : ∃ s, s ∈ u ∧ Coin.leaf (nearN (many.getD s 0)) s = c := by
      have := List.mem_of_getElem? h2
      unfold lvs at this
      exact List.mem_map.1 this
    obtain ⟨b, rfl, hB⟩ := h3
    exact ⟨b, rfl, hB.upd hU (hf b _ hB)⟩⟩
theorem lens_syms_lt {u : List Nat} {n i : Nat} (h : ∀ s ∈ u, s < n) (hi : i < u.length) : u[i] < n := h _ (List.getElem_mem hi)
set_option maxRecDepth 100000 in
set_option maxHeartbeats 6400000 in
theorem fill_any (many : List Int) (u : List Nat) (L n cap ob k cu cm : Nat) (au am : Option Addr) (w : World) (hB : Blk w ob (i64s (List.replicate n 0)) 3)
    (hus : ∀ i (h : i < u.length), ∃ b o, au = some ⟨b, o, none⟩ ∧ w.cell? ⟨b, o + i, none⟩ = some (.int .i64 (u[i] : Nat))) (hI : IntsIn w am n many) (hn : n ≤ 300) (hL : L ≤ 15) (hk : u.length = k) (h2 : 2 ≤ k) (hun : k ≤ n) (hlt : ∀ s ∈ u, s < n)
    (hrow : 2 * k - 2 ≤ (rowC (lvs many u) L).length) :
    Calls Tryz.prog 89 #[.slice (some ⟨ob, 0, none⟩) n cap, .slice au k cu, .slice am n cm, .int .i64 (L : Nat)] w fun e w' => e = .returned (.tuple #[]) ∧ Blk w' ob (i64s ((List.range n).map fun s => lenAt many u L s)) 3 ∧ Upd [ob] w w' := by
  obtain ⟨i0, hi, hz0, hz1, hz2⟩ := info_parts infoCp
  have HBo := Lib.hid hB
  have HUS := Lib.hid hus
  have HI := Lib.hid hI
  have HLT := Lib.hid hlt
  have HK := Lib.hid hk
  have HROW := Lib.hid hrow
  have HLN := Lib.hid hI.len
  clear hB hus hI hlt hk hrow
  have hLz : (L : Int) ≤ 15 := by omega
  go_enter Tryz.func89, Tryz.ntmps89
  go_wp2
  go_loopg [8, 17] 1000 (fun gg s8 s17 wr => ∃ (i : Nat) (ps : List Value), i ≤ k ∧ gg = 1000 - i ∧ s17 = .int .i64 (i : Nat) ∧ Hid (OwnC w wr s8 ps) ∧ Hid (CoinsAt wr ps (lvs many (u.take i))) ∧ Hid (ps.length = i) ∧ Hid (Upd [] w wr) ∧ Hid (Blk wr w.heap.size [.slice (some ⟨ob, 0, none⟩) n cap] 55))
  case atStart => exact ⟨0, [], by omega, rfl, rfl, Lib.hid (OwnC.nil _ _), Lib.hid (CoinsAt.nil _), Lib.hid rfl, Lib.hid ((Upd.refl _ _).alloc _), Lib.hid (Blk.new w _ _)⟩
  case round =>
    obtain ⟨i, ps, hik, rfl, rfl, HO, HC, HPL, HU, HX⟩ := hrel
    by_cases hc : i < k
    · have hcz : (i : Int) < (k : Int) := by omega
      have hiu : i < u.length := by rw [HK.out]; exact hc
      obtain ⟨b, o, rfl, hc1⟩ := HUS.out i hiu
      have hsn : u[i] < n := lens_syms_lt HLT.out hiu
      have hsm : u[i] < many.length := by rw [HLN.out]; exact hsn
      obtain ⟨bm, om, rfl, hc2, r1, r2⟩ := (HI.out.pure HU.out).cell u[i] hsm
      have hc3 := (HU.out.at (cellLt hc1) (by simp) (o + i)).trans hc1
      have HLT2 : Hid (lvs many (u.take (i + 1)) = lvs many (u.take i) ++ [.leaf (nearN many[u[i]]) u[i]]) := Lib.hid (by rw [lvs_take many u i hiu]; simp [List.getD_eq_getElem?_getD, hsm])
      generalize many[u[i]] = m at *
      generalize u[i] = s at *
      have hNle := nearN_le m
      have HNR := Lib.hid (fun w => near_any m w)
      generalize nearN m = N at *
      have hw1 : IntKind.i64.wrap ((i : Int) + 1) = ((i + 1 : Nat) : Int) := by rw [IntWalk.i64_in _ (by omega)]; rfl
      have hsz : (s : Int) < (n : Int) := by omega
      obtain ⟨va, vc, rfl⟩ := HO.out.form
      have hpl := HPL.out
      rw [hpl] at HO ⊢
      clear hiu hsm hc1 hpl
      go_wp2_with fail
      refine (HNR.out _).mono ?_
      rintro e w' ⟨rfl, rfl⟩
      have hRz := (HO.out.1.alloc (.cells #[.int .i64 (N : Nat), .int .i64 (s : Nat), .slice none 0 0] 168)).alloc (.cells #[.pointer (some ⟨wr.heap.size, 0, none⟩)] 166)
      rw [HPL.out] at hRz
      go_wp2_with (at_builtin; refine wpList_app _ rfl _ _ 165 rfl 166 i0 _ 1 8 Tryz.underlying165 hi hz0 hz1 hz2 rfl (by omega) (.slice va i vc) i _ rfl hRz ⟨wr.heap.size + 1, 0, none⟩ 1 1 [.pointer (some ⟨wr.heap.size, 0, none⟩)] rfl rfl (newsP _ _ _ _ _ rfl) (by simp [Value.oneCell']) (by unfold maxLen; omega) (by omega) ?_)
      intro v4 w4 hR4 hU4 hT4
      have hmm : Upd [] wr ((wr.alloc (.cells #[.int .i64 (N : Nat), .int .i64 (s : Nat), .slice none 0 0] 168)).alloc (.cells #[.pointer (some ⟨wr.heap.size, 0, none⟩)] 166)) := ((Upd.refl _ _).alloc _).alloc _
      have hap := (HO.out.upd hmm).app (HU.out.then hmm) (ys := [.pointer (some ⟨wr.heap.size, 0, none⟩)]) (by rw [HPL.out]; exact hR4) hU4 hT4
      have hnb : Blk w4 wr.heap.size [.int .i64 (N : Nat), .int .i64 (s : Nat), .slice none 0 0] 168 := ((Blk.new wr [.int .i64 (N : Nat), .int .i64 (s : Nat), .slice none 0 0] 168).alloc (.cells #[.pointer (some ⟨wr.heap.size, 0, none⟩)] 166)).upd hU4 (fun hm => by have := HO.out.1.lt _ (by simpa using hm); omega)
      have hcs : CoinsAt w4 (ps ++ [.pointer (some ⟨wr.heap.size, 0, none⟩)]) (lvs many (u.take (i + 1))) := by
        rw [HLT2.out]
        exact (lvsKeep (HC.out.upd hmm) hU4 (fun q cs hq hm => ((HO.out.1.alloc (.cells #[.int .i64 (N : Nat), .int .i64 (s : Nat), .slice none 0 0] 168)).alloc (.cells #[.pointer (some ⟨wr.heap.size, 0, none⟩)] 166)).neB hq (by decide) (by simpa using hm))).snoc ⟨_, rfl, hnb⟩
      have hx4 := (HX.out.upd hmm (by simp)).upd hU4 (fun hm => (HO.out.1.neB HX.out (by decide)) (by simpa using hm))
      have HAP := Lib.hid hap
      have HCS := Lib.hid hcs
      have HX4 := Lib.hid hx4
      clear hap hcs hx4 hnb hmm hR4 hU4 hT4 hRz
      go_wp2
      go_roundg (1000 - (i + 1))
      · exact ⟨i + 1, _, by omega, rfl, by first | rfl | go_num, Lib.hid HAP.out.1, HCS, Lib.hid (by rw [List.length_append, HPL.out]; rfl), Lib.hid HAP.out.2, HX4⟩
      · omega
    · have hcz : ¬ (i : Int) < (k : Int) := by omega
      obtain rfl : i = k := by omega
      have HC1 : Hid (CoinsAt wr ps (lvs many u)) := Lib.hid (by have := HC.out; rwa [List.take_of_length_le (by rw [HK.out]; exact Nat.le_refl _)] at this)
      clear HC
      have HU1 := HU
      have HX1 := HX
      have HO1 := HO
      clear HU HX HO
      have HRL : Hid (∀ j, (rowC (lvs many u) j).length ≤ 2 * i) := Lib.hid (fun j => by have := rowC_len (lvs many u) j; rw [lvs_len, HK.out] at this; exact this)
      have HRW : Hid (∀ j, j < L → ∀ c ∈ rowC (lvs many u) j, c.w ≤ 70368744177664) := Lib.hid (fun j hj c hcm => by
        have h1 := rowC_w (lvs many u) _ (lvs_w many u) j c hcm
        have h3 : 2 ^ j ≤ 2 ^ 15 := Nat.pow_le_pow_right (by omega) (by omega)
        have h4 := Nat.mul_le_mul_left 1073741824 h3
        omega)
      generalize hlv : lvs many u = lv at *
      go_wp2
      obtain ⟨wo, hwo⟩ : ∃ wo : World, wo = wr := ⟨_, rfl⟩
      subst hwo
      go_loopg [11, 34] 1000 (fun gg s11 s34 wr => ∃ (j : Nat) (qs : List Value), j ≤ L ∧ gg = 1000 - j ∧ s34 = .int .i64 (j : Nat) ∧ Hid (OwnC w wr s11 qs) ∧ Hid (CoinsAt wr qs (rowC lv j)) ∧ Hid (Upd [] wo wr))
      case atStart => exact ⟨0, [], by omega, rfl, rfl, Lib.hid (OwnC.nil _ _), Lib.hid (CoinsAt.nil _), Lib.hid (Upd.refl _ _)⟩
      case round =>
        obtain ⟨j, qs, hjL, rfl, rfl, HO, HC, HU⟩ := hrel
        have HQL : Hid (qs.length = (rowC lv j).length) := Lib.hid HC.out.1
        by_cases hc2 : j < L
        · have hcz2 : (j : Int) < (L : Int) := by omega
          have hw1 : IntKind.i64.wrap ((j : Int) + 1) = ((j + 1 : Nat) : Int) := by rw [IntWalk.i64_in _ (by omega)]; rfl
          have HP := Lib.hid (packed_any _ qs _ _ HO.out.1 HC.out (by have h1 := HRL.out j; have h3 := HQL.out; omega) (HRW.out j hc2))
          go_wp2_with fail
          refine HP.out.mono ?_
          rintro e w1 ⟨v1, q1, rfl, hO1, hC1, hU1⟩
          have HM := Lib.hid (merged_any _ v1 ps q1 lv _ w1 ((HO1.out.slC.upd HU.out).upd hU1) hO1.slC ((HC1.out.upd HU.out).upd hU1) hC1 (by have := HPL.out; omega) (by rw [hC1.1, packC_length]; have := HRL.out j; omega) (by have := HPL.out; omega))
          have HU2 := Lib.hid (HU.out.then hU1)
          clear hO1 hC1 hU1
          go_wp2_with fail
          refine HM.out.mono ?_
          rintro e w2 ⟨v2, q2, rfl, hO2, hC2, hU2⟩
          have HO2 := Lib.hid (hO2.base (w0 := w) (by have h1 := HU1.out.size; have h3 := HU2.out.size; omega))
          have HC2 := Lib.hid hC2
          have HU3 := Lib.hid (HU2.out.then hU2)
          clear hO2 hC2 hU2 HP HM
          go_wp2
          go_roundg (1000 - (j + 1))
          · exact ⟨j + 1, q2, by omega, rfl, by first | rfl | go_num, HO2, HC2, HU3⟩
          · omega
        · have hcz2 : ¬ (j : Int) < (L : Int) := by omega
          obtain rfl : j = L := by omega
          obtain ⟨M, hM⟩ : ∃ M : Nat, M = 2 * i - 2 := ⟨_, rfl⟩
          have hMz : 2 * (i : Int) - 2 = (M : Int) := by omega
          have hMq : M ≤ qs.length := by rw [HQL.out, hM]; exact HROW.out
          obtain ⟨g, c3, rfl, hg, hle⟩ := HO.out.1.form' (by omega)
          obtain ⟨Q, hQ⟩ : ∃ Q, qs.length = Q := ⟨_, rfl⟩
          rw [hQ] at HO hMq hle HQL
          have hMc : (M : Int) ≤ (c3 : Int) := by omega
          have HMI := Lib.hid hM
          have hQQ := Lib.hid hQ
          clear hQ hM
          rw [hQQ.out]
          have HEND : Hid (addLs (List.replicate n 0) ((rowC lv j).take M) = (List.range n).map fun s => lenAt many u j s) := Lib.hid (by
            have := ends_len many u j n
            rw [hlv, HK.out, ← HMI.out] at this
            exact this)
          have HBD : Hid (∀ m (h : m < (rowC lv j).length), sumM ((rowC lv j).take m) + (rowC lv j)[m].many ≤ 5000) := Lib.hid (fun m h => by
            have h1 := sumM_take (rowC lv j) m h
            have h3 := rowC_many lv j
            have h4 : sumM lv = i := by rw [← hlv, lvs_many, HK.out]
            rw [h4] at h3
            have h5 : i * j ≤ 300 * 15 := Nat.mul_le_mul (by omega) (by omega)
            omega)
          have HSY : Hid (∀ c ∈ rowC lv j, c.syms n) := Lib.hid (rowC_syms lv n (by rw [← hlv]; exact lvs_syms many u n HLT.out) j)
          clear hlv
          go_wp2
          have hF3 : Blk (wr.alloc (.cells #[.func (.func 125) #[] #[.pointer (some ⟨w.heap.size, 0, none⟩), .pointer (some ⟨wr.heap.size, 0, none⟩)]] 172)) wr.heap.size [.func (.func 125) #[] #[.pointer (some ⟨w.heap.size, 0, none⟩), .pointer (some ⟨wr.heap.size, 0, none⟩)]] 172 := Blk.new wr _ _
          have hU3 : Upd [] w (wr.alloc (.cells #[.func (.func 125) #[] #[.pointer (some ⟨w.heap.size, 0, none⟩), .pointer (some ⟨wr.heap.size, 0, none⟩)]] 172)) := (HU1.out.then HU.out).alloc _
          have hX3 := (HX1.out.upd HU.out (by simp)).alloc (.cells #[.func (.func 125) #[] #[.pointer (some ⟨w.heap.size, 0, none⟩), .pointer (some ⟨wr.heap.size, 0, none⟩)]] 172)
          have hR3 := HO.out.1.alloc (.cells #[.func (.func 125) #[] #[.pointer (some ⟨w.heap.size, 0, none⟩), .pointer (some ⟨wr.heap.size, 0, none⟩)]] 172)
          rw [hQQ.out] at hR3
          have hC3 := HC.out.upd ((Upd.refl [] wr).alloc (.cells #[.func (.func 125) #[] #[.pointer (some ⟨w.heap.size, 0, none⟩), .pointer (some ⟨wr.heap.size, 0, none⟩)]] 172))
          generalize wr.alloc (.cells #[.func (.func 125) #[] #[.pointer (some ⟨w.heap.size, 0, none⟩), .pointer (some ⟨wr.heap.size, 0, none⟩)]] 172) = w3 at *
          generalize wr.heap.size = bc at *
          have hB3 := HBo.out.upd hU3 (by simp)
          have HF3 := Lib.hid hF3
          have HU3 := Lib.hid hU3
          have HX3 := Lib.hid hX3
          have HR3 := Lib.hid hR3
          have HC3 := Lib.hid hC3
          have HB3 := Lib.hid hB3
          have HN1 := Lib.hid (hX3.neT hB3 (by decide))
          have HN2 := Lib.hid (hF3.neT hB3 (by decide))
          have HN3 : Hid (g ≠ ob) := Lib.hid (fun e => hR3.neB hB3 (by decide) (by rw [e]; rfl))
          clear hF3 hU3 hX3 hR3 hC3 hB3 hg
          go_loopg [49] 1000 (fun gg s49 wr => ∃ m : Nat, m ≤ M ∧ gg = 1000 - m ∧ s49 = .int .i64 (m : Nat) ∧ Hid (Blk wr ob (i64s (addLs (List.replicate n 0) ((rowC lv j).take m))) 3) ∧ Hid (Upd [ob] w3 wr))
          case atStart => exact ⟨0, by omega, rfl, rfl, HB3, Lib.hid (Upd.refl _ _)⟩
          case round =>
            obtain ⟨m, hmM, rfl, rfl, HBm, HUm⟩ := hrel
            by_cases hc3 : m < M
            · have hcz3 : (m : Int) < (M : Int) := by omega
              have hw1 : IntKind.i64.wrap ((m : Int) + 1) = ((m + 1 : Nat) : Int) := by rw [IntWalk.i64_in _ (by omega)]; rfl
              have hmq : m < qs.length := by rw [hQQ.out]; omega
              have hmr : m < (rowC lv j).length := by rw [← HC3.out.1]; exact hmq
              have hcm := (HUm.out.at (HR3.out.lt g rfl) (by simpa using HN3.out) m).trans (HR3.out.cell m (List.getElem?_eq_getElem hmq))
              have f1 := (HF3.out.upd HUm.out (by simpa using HN2.out)).cell 0 rfl
              have HCT := Lib.hid (count_any n cap w.heap.size bc ob (rowC lv j)[m] qs[m] _ _ ((HC3.out.2 m _ _ (List.getElem?_eq_getElem hmq) (List.getElem?_eq_getElem hmr)).keep (KeepC.of_ints HB3.out HUm.out)) (HSY.out _ (List.getElem_mem hmr)) (by rw [addLs_len, List.length_replicate]) HBm.out
                (HX3.out.upd HUm.out (by simpa using HN1.out)) (HF3.out.upd HUm.out (by simpa using HN2.out)) (fun s => by
                  have h1 := addLs_bd ((rowC lv j).take m) (List.replicate n 0) s
                  have h3 : (List.replicate n 0).getD s 0 = 0 := by
                    by_cases h : s < n
                    · simp [List.getD_eq_getElem?_getD, h]
                    · simp [List.getD_eq_getElem?_getD, h]
                  have h4 := HBD.out m hmr
                  omega))
              have HST : Hid (addLs (List.replicate n 0) ((rowC lv j).take (m + 1)) = addL (addLs (List.replicate n 0) ((rowC lv j).take m)) (rowC lv j)[m]) := Lib.hid (by rw [List.take_succ_eq_append_getElem hmr, addLs_snoc])
              generalize qs[m] = p at *
              generalize (rowC lv j)[m] = c at *
              clear hmq hmr
              go_wp2_with fail
              refine HCT.out.mono ?_
              rintro e w4 ⟨rfl, hB4, hU4⟩
              rw [← HST.out] at hB4
              have HB4 := Lib.hid hB4
              have HU4 := Lib.hid (HUm.out.then hU4)
              clear hB4 hU4 HCT
              go_wp2
              go_roundg (1000 - (m + 1))
              · exact ⟨m + 1, by omega, rfl, by first | rfl | go_num, HB4, HU4⟩
              · omega
            · have hcz3 : ¬ (m : Int) < (M : Int) := by omega
              obtain rfl : m = M := by omega
              go_wp2
              go_end0
              exact ⟨rfl, by rw [← HEND.out]; exact HBm.out, (HU3.out.mono (fp' := [ob]) (fun q hq => by simp at hq)).then HUm.out⟩
end Go.Proofs.YtdehkaknbmbieaaGreat
namespace Go.Proofs.YtdehkaknbmbieaaGreat
set_option linter.unusedVariables false
set_option linter.unusedSimpArgs false
set_option linter.unusedSectionVars false
open Go.RowKit
set_option linter.unusedVariables false
set_option linter.unusedSimpArgs false

theorem keepCell {W w : World} {p : Addr} {v : Value} (h : ∃ os, w = Go.Sort.grow W.drew os) (hc : W.cell? p = some v) : w.cell? p = some v := by
  obtain ⟨os, rfl⟩ := h
  exact (Go.Sort.cell?_grow W.drew os p (World.block_lt_of_cell? W _ hc)).trans hc
theorem keepAlloc {W w : World} {o : Obj} (h : ∃ os, w = Go.Sort.grow W.drew os) : ∃ os, w.alloc o = Go.Sort.grow W.drew os := by
  obtain ⟨os, rfl⟩ := h
  exact ⟨os ++ #[o], by rw [Go.Sort.alloc_eq_grow, Go.Sort.grow_grow]⟩
def cfN (many : List Int) (x y : Nat) : Int := orN (cmpN (nearN (many.getD x 0)) (nearN (many.getD y 0))) (cmpN x y)
set_option maxRecDepth 100000 in
set_option maxHeartbeats 3200000 in
theorem usedCmp_any (many : List Int) (a : Option Addr) (n cap bx x y : Nat) (W : World) (hb : W.cell? ⟨bx, 0, none⟩ = some (.slice a n cap)) (hI : IntsIn W a n many) (hx : x < n) (hy : y < n) (hn : n ≤ 1000000) :
    Calls Tryz.prog 92 #[.int .i64 (x : Nat), .int .i64 (y : Nat), .pointer (some ⟨bx, 0, none⟩)] W fun e w' => e = .returned (.int .i64 (cfN many x y)) ∧ ∃ q os, w' = Go.Sort.grow (W.drewN q) os := by
  have hx1 : x < many.length := by rw [hI.len]; exact hx
  have hy1 : y < many.length := by rw [hI.len]; exact hy
  obtain ⟨b, off, rfl, hc1, r1, r2⟩ := hI.cell x hx1
  obtain ⟨b', off', hbo, hc2, r3, r4⟩ := hI.cell y hy1
  injection hbo with hbo
  injection hbo with e1 e2
  subst e1 e2
  have HCF : Hid (cfN many x y = orN (cmpN (nearN many[x]) (nearN many[y])) (cmpN x y)) := Lib.hid (by unfold cfN; simp [List.getD_eq_getElem?_getD, hx1, hy1])
  generalize many[x] = v1 at *
  generalize many[y] = v2 at *
  have HN1 := Lib.hid (fun w => near_any v1 w)
  have HN2 := Lib.hid (fun w => near_any v2 w)
  generalize nearN v1 = N1 at *
  generalize nearN v2 = N2 at *
  have HC1 := Lib.hid (fun w => compare_any N1 N2 w)
  have HC2 := Lib.hid (fun w => compare_any x y w)
  have hxz : (x : Int) < (n : Int) := by omega
  have hyz : (y : Int) < (n : Int) := by omega
  clear hI hx1 hy1
  go_enter Tryz.func92, Tryz.ntmps92
  go_wp2
  refine wp_region_held_drew (S := fun w' => ∃ os, w' = Go.Sort.grow W.drew os) (by kernel_rfl) ⟨#[], by rw [Go.Sort.grow_empty]⟩ (fun hHeld => ?_)
  change wpAnyH _ _ _ _ _ 17 #[false, false, false, false, false, false, false, false, false, false, false, false, false, false, false, false, false] _ _
  refine heldTake (i := 0) (d := some 6) (v := ?v0_1) rfl rfl (by kernel_rfl) (by kernel_rfl) (by kernel_rfl) (fun _ _ _ h => h) (by rfl) ?hy0_1 (by assumption) ?r0_1
  case hy0_1 => (intro w hSw; have q0 := keepCell hSw hb; go_simp; try with_reducible rfl)
  try simp only [Act.put, List.setIfInBounds_toArray, List.set_cons_zero, List.set_cons_succ]
  change wpAnyH _ _ _ _ _ 16 #[true, false, false, false, false, false, false, false, false, false, false, false, false, false, false, false, false] _ _
  refine heldTake (i := 1) (d := some 7) (v := ?v1_2) rfl rfl (by kernel_rfl) (by kernel_rfl) (by kernel_rfl) (fun _ _ _ h => h) (by rfl) ?hy1_2 (by assumption) ?r1_2
  case hy1_2 => (intro w hSw; (try dsimp only at hSw); go_simp; try with_reducible rfl)
  try simp only [Act.put, List.setIfInBounds_toArray, List.set_cons_zero, List.set_cons_succ]
  change wpAnyH _ _ _ _ _ 15 #[true, true, false, false, false, false, false, false, false, false, false, false, false, false, false, false, false] _ _
  refine heldTake (i := 2) (d := some 8) (v := ?v2_3) rfl rfl (by kernel_rfl) (by kernel_rfl) (by kernel_rfl) (fun _ _ _ h => h) (by rfl) ?hy2_3 (by assumption) ?r2_3
  case hy2_3 => (intro w hSw; (try dsimp only at hSw); go_simp; try with_reducible rfl)
  try simp only [Act.put, List.setIfInBounds_toArray, List.set_cons_zero, List.set_cons_succ]
  change wpAnyH _ _ _ _ _ 14 #[true, true, true, false, false, false, false, false, false, false, false, false, false, false, false, false, false] _ _
  refine heldTake (i := 3) (d := some 9) (v := ?v3_4) rfl rfl (by kernel_rfl) (by kernel_rfl) (by kernel_rfl) (fun _ _ _ h => h) (by rfl) ?hy3_4 (by assumption) ?r3_4
  case hy3_4 => (intro w hSw; have q0 := keepCell hSw hc1; go_simp; try with_reducible rfl)
  try simp only [Act.put, List.setIfInBounds_toArray, List.set_cons_zero, List.set_cons_succ]
  change wpAnyH _ _ _ _ _ 13 #[true, true, true, true, false, false, false, false, false, false, false, false, false, false, false, false, false] _ _
  refine heldTake (i := 5) (d := some 11) (v := ?v5_5) rfl rfl (by kernel_rfl) (by kernel_rfl) (by kernel_rfl) (fun _ _ _ h => h) (by rfl) ?hy5_5 (by assumption) ?r5_5
  case hy5_5 => (intro w hSw; have q0 := keepCell hSw hb; go_simp; try with_reducible rfl)
  try simp only [Act.put, List.setIfInBounds_toArray, List.set_cons_zero, List.set_cons_succ]
  change wpAnyH _ _ _ _ _ 12 #[true, true, true, true, false, true, false, false, false, false, false, false, false, false, false, false, false] _ _
  refine heldTake (i := 6) (d := some 12) (v := ?v6_6) rfl rfl (by kernel_rfl) (by kernel_rfl) (by kernel_rfl) (fun _ _ _ h => h) (by rfl) ?hy6_6 (by assumption) ?r6_6
  case hy6_6 => (intro w hSw; (try dsimp only at hSw); go_simp; try with_reducible rfl)
  try simp only [Act.put, List.setIfInBounds_toArray, List.set_cons_zero, List.set_cons_succ]
  change wpAnyH _ _ _ _ _ 11 #[true, true, true, true, false, true, true, false, false, false, false, false, false, false, false, false, false] _ _
  refine heldTake (i := 7) (d := some 13) (v := ?v7_7) rfl rfl (by kernel_rfl) (by kernel_rfl) (by kernel_rfl) (fun _ _ _ h => h) (by rfl) ?hy7_7 (by assumption) ?r7_7
  case hy7_7 => (intro w hSw; (try dsimp only at hSw); go_simp; try with_reducible rfl)
  try simp only [Act.put, List.setIfInBounds_toArray, List.set_cons_zero, List.set_cons_succ]
  change wpAnyH _ _ _ _ _ 10 #[true, true, true, true, false, true, true, true, false, false, false, false, false, false, false, false, false] _ _
  refine heldTake (i := 8) (d := some 14) (v := ?v8_8) rfl rfl (by kernel_rfl) (by kernel_rfl) (by kernel_rfl) (fun _ _ _ h => h) (by rfl) ?hy8_8 (by assumption) ?r8_8
  case hy8_8 => (intro w hSw; have q0 := keepCell hSw hc2; go_simp; try with_reducible rfl)
  try simp only [Act.put, List.setIfInBounds_toArray, List.set_cons_zero, List.set_cons_succ]
  change wpAnyH _ _ _ _ _ 9 #[true, true, true, true, false, true, true, true, true, false, false, false, false, false, false, false, false] _ _
  refine heldTake (i := 11) (d := some 17) (v := ?v11_9) rfl rfl (by kernel_rfl) (by kernel_rfl) (by kernel_rfl) (fun _ _ _ h => h) (by rfl) ?hy11_9 (by assumption) ?r11_9
  case hy11_9 => (intro w hSw; (try dsimp only at hSw); go_simp; try with_reducible rfl)
  try simp only [Act.put, List.setIfInBounds_toArray, List.set_cons_zero, List.set_cons_succ]
  change wpAnyH _ _ _ _ _ 8 #[true, true, true, true, false, true, true, true, true, false, false, true, false, false, false, false, false] _ _
  refine heldTake (i := 12) (d := some 18) (v := ?v12_10) rfl rfl (by kernel_rfl) (by kernel_rfl) (by kernel_rfl) (fun _ _ _ h => h) (by rfl) ?hy12_10 (by assumption) ?r12_10
  case hy12_10 => (intro w hSw; (try dsimp only at hSw); go_simp; try with_reducible rfl)
  try simp only [Act.put, List.setIfInBounds_toArray, List.set_cons_zero, List.set_cons_succ]
  change wpAnyH _ _ _ _ _ 7 #[true, true, true, true, false, true, true, true, true, false, false, true, true, false, false, false, false] _ _
  refine wpAnyH_ready (rs := [4]) (by kernel_rfl) (by simp) ?_
  refine AllReadyH.cons rfl (fun K hK => ?_) AllReadyH.nil
  go_simp
  refine (HN1.out _).mono ?_
  rintro e z ⟨rfl, rfl⟩
  go_wp2
  refine hK.out _ _ hHeld (fun hHeld => ?_)
  clear hK K
  try simp only [Act.put, List.setIfInBounds_toArray, List.set_cons_zero, List.set_cons_succ]
  change wpAnyH _ _ _ _ _ 6 #[true, true, true, true, true, true, true, true, true, false, false, true, true, false, false, false, false] _ _
  refine wpAnyH_ready (rs := [9]) (by kernel_rfl) (by simp) ?_
  refine AllReadyH.cons rfl (fun K hK => ?_) AllReadyH.nil
  go_simp
  refine (HN2.out _).mono ?_
  rintro e z ⟨rfl, rfl⟩
  go_wp2
  refine hK.out _ _ hHeld (fun hHeld => ?_)
  clear hK K
  try simp only [Act.put, List.setIfInBounds_toArray, List.set_cons_zero, List.set_cons_succ]
  change wpAnyH _ _ _ _ _ 5 #[true, true, true, true, true, true, true, true, true, true, false, true, true, false, false, false, false] _ _
  refine wpAnyH_ready (rs := [10]) (by kernel_rfl) (by simp) ?_
  refine AllReadyH.cons rfl (fun K hK => ?_) AllReadyH.nil
  go_simp
  refine (HC1.out _).mono ?_
  rintro e z ⟨rfl, rfl⟩
  go_wp2
  refine hK.out _ _ hHeld (fun hHeld => ?_)
  clear hK K
  try simp only [Act.put, List.setIfInBounds_toArray, List.set_cons_zero, List.set_cons_succ]
  change wpAnyH _ _ _ _ _ 4 #[true, true, true, true, true, true, true, true, true, true, true, true, true, false, false, false, false] _ _
  refine wpAnyH_ready (rs := [13]) (by kernel_rfl) (by simp) ?_
  refine AllReadyH.cons rfl (fun K hK => ?_) AllReadyH.nil
  go_simp
  refine (HC2.out _).mono ?_
  rintro e z ⟨rfl, rfl⟩
  go_wp2
  refine hK.out _ _ hHeld (fun hHeld => ?_)
  clear hK K
  try simp only [Act.put, List.setIfInBounds_toArray, List.set_cons_zero, List.set_cons_succ]
  change wpAnyH _ _ _ _ _ 3 #[true, true, true, true, true, true, true, true, true, true, true, true, true, true, false, false, false] _ _
  refine wpAnyH_ready (rs := [14]) (by kernel_rfl) (by simp) ?_
  refine AllReadyH.cons rfl (fun K hK => ?_) AllReadyH.nil
  go_simp
  skip
  go_wp2
  refine hK.out _ _ (keepAlloc hHeld) (fun hHeld => ?_)
  clear hK K
  try simp only [Act.put, List.setIfInBounds_toArray, List.set_cons_zero, List.set_cons_succ]
  change wpAnyH _ _ _ _ _ 2 #[true, true, true, true, true, true, true, true, true, true, true, true, true, true, true, false, false] _ _
  refine wpAnyH_ready (rs := [15]) (by kernel_rfl) (by simp) ?_
  refine AllReadyH.cons rfl (fun K hK => ?_) AllReadyH.nil
  go_simp
  refine (or_any _ _ _ _ ((Blk.new W [.int .i64 (cmpN N1 N2), .int .i64 (cmpN x y)] 3).drew.cell 0 rfl) ((Blk.new W [.int .i64 (cmpN N1 N2), .int .i64 (cmpN x y)] 3).drew.cell 1 rfl)).mono ?_
  rintro e z ⟨rfl, rfl⟩
  go_wp2
  refine hK.out _ _ hHeld (fun hHeld => ?_)
  clear hK K
  try simp only [Act.put, List.setIfInBounds_toArray, List.set_cons_zero, List.set_cons_succ]
  change wpAnyH _ _ _ _ _ 1 #[true, true, true, true, true, true, true, true, true, true, true, true, true, true, true, true, false] _ _
  refine heldTake (i := 16) (d := some 5) (v := ?v16_17) rfl rfl (by kernel_rfl) (by kernel_rfl) (by kernel_rfl) (fun _ _ _ h => h) (by rfl) ?hy16_17 (by assumption) ?r16_17
  case hy16_17 => (intro w hSw; (try dsimp only at hSw); go_simp; try with_reducible rfl)
  try simp only [Act.put, List.setIfInBounds_toArray, List.set_cons_zero, List.set_cons_succ]
  change wpAnyH _ _ _ _ _ 0 #[true, true, true, true, true, true, true, true, true, true, true, true, true, true, true, true, true] _ _
  refine wpAnyH_done (by kernel_rfl) ?_ 0
  go_wp2
  go_ret
  obtain ⟨os, hos⟩ := hHeld
  exact ⟨by rw [HCF.out]; rfl, 1, os, hos⟩
end Go.Proofs.YtdehkaknbmbieaaGreat

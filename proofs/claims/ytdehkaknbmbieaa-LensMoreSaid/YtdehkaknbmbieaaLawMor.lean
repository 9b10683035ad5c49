/- Law 05: LensMore: its walk. -/
import Derived.Test.YtdehkaknbmbieaaMorP
import Derived.Test.YtdehkaknbmbieaaTrm
import Derived.Test.YtdehkaknbmbieaaCost
import Derived.Test.YtdehkaknbmbieaaFix3
import Derived.Test.YtdehkaknbmbieaaRKind
namespace Go.Proofs.Ytdehkaknbmbieaa
set_option linter.unusedVariables false
set_option linter.unusedSimpArgs false
set_option linter.unusedSectionVars false
open Go.RowKit
set_option linter.unusedVariables false
set_option linter.unusedSimpArgs false

theorem ints_take (l : List Nat) (m : Nat) : ints (l.take m) = (ints l).take m := by simp [ints, List.map_take]
theorem IntsIn.take {w : World} {a : Option Addr} {n m : Nat} {l : List Int} (h : IntsIn w a n l) (hm : m ≤ n) : IntsIn w a m (l.take m) :=
  ⟨by rw [List.length_take, h.len]; omega, fun i hi => by
    rw [List.length_take, h.len] at hi
    obtain ⟨b, off, e, c, r⟩ := h.cell i (by rw [h.len]; omega)
    exact ⟨b, off, e, by rw [List.getElem_take]; exact c, by rw [List.getElem_take]; exact r⟩⟩
def dblN (many : List Int) (i : Nat) : List Nat := (many.take i).map fun x => (2 * x).toNat
theorem dblN_len (many : List Int) (i : Nat) (h : i ≤ many.length) : (dblN many i).length = i := by simp [dblN]; omega
theorem dblN_succ (many : List Int) (i : Nat) (x : Nat) (h : many[i]? = some (x : Int)) : dblN many (i + 1) = dblN many i ++ [2 * x] := by
  have hi : i < many.length := (List.getElem?_eq_some_iff.1 h).1
  have hx : many[i] = (x : Int) := (List.getElem?_eq_some_iff.1 h).2
  unfold dblN
  rw [List.take_succ_eq_append_getElem hi, List.map_append, List.map_cons, List.map_nil, hx]
  congr 2
theorem dblN_all (many : List Int) (hb : ∀ x ∈ many, 0 ≤ x ∧ x ≤ 1000000) : ints (dblN many many.length) = twiceL many := by
  unfold ints dblN twiceL
  rw [List.take_length, List.map_map]
  refine List.map_congr_left fun x hx => ?_
  have := hb x hx
  simp
  omega
theorem fix_at : (fixP 4)[0]? = some 8 ∧ (fixP 4)[143]? = some 8 ∧ (fixP 4)[144]? = some 9 ∧ (fixP 4)[255]? = some 9 ∧ (fixP 4)[256]? = some 7 ∧ (fixP 4)[279]? = some 7 ∧ (fixP 4)[280]? = some 8 := by decide +kernel
theorem fix_kind : kindOf (ints (fixP 4)) = 1 ∧ kindOf (ints (List.replicate 32 5)) = 1 := by decide +kernel
theorem fix_bd : (∀ x ∈ fixP 4, x ≤ 9223372036854775807) ∧ (∀ x ∈ List.replicate 32 5, x ≤ 9223372036854775807) := by decide +kernel
theorem of_good {many : List Int} {u : List Nat} {k n : Nat} {w : World} {v : Value} {w' : World} (h : OfOut many u (k : Int) n w v w') (h1 : 1 ≤ k) (h15 : k ≤ 15) (hn : n ≤ 300) (hu : u.length ≤ 2 ^ k) :
    ∃ ob, v = .slice (some ⟨ob, 0, none⟩) n n ∧ w.heap.size ≤ ob ∧ Blk w' ob (i64s (ofL many u k n)) 3 := by
  rcases h with ⟨hb, _⟩ | ⟨_, ob, e, hs, hB⟩
  · exfalso
    unfold OfBad at hb
    rw [show (k : Int).toNat = k by omega] at hb
    omega
  · rw [show (k : Int).toNat = k by omega] at hB
    exact ⟨ob, e, hs, hB⟩
theorem fits_ints {many : List Int} {u : List Nat} {L n ob : Nat} {l : List Nat} {w : World} (h : Fits many u L n l) (hL : L ≤ 15) (hB : Blk w ob (i64s l) 3) : IntsIn w (some ⟨ob, 0, none⟩) n (ints l) := IntsIn.blk hB h.len (fun x hx => by
    obtain ⟨j, hj, rfl⟩ := List.getElem_of_mem hx
    have := h.le j (by rw [← h.len]; exact hj)
    rw [List.getD_eq_getElem?_getD, List.getElem?_eq_getElem hj] at this
    simp at this
    omega)
theorem costN_le {many : List Int} {u : List Nat} {L n : Nat} {l : List Nat} (h : Fits many u L n l) (hL : L ≤ 15) (hn : n ≤ 60) : costN many l n ≤ 966367641600 := by
  have := sumN_le (n := n) (f := fun i => l.getD i 0 * nearN (many.getD i 0)) (g := fun _ => 16106127360) (fun j hj => by
    have h1 := h.le j hj
    have := Nat.mul_le_mul (Nat.le_trans h1 hL) (nearN_le (many.getD j 0))
    omega)
  rw [sumN_const] at this
  unfold costN
  have h2 : n * 16106127360 ≤ 60 * 16106127360 := Nat.mul_le_mul_right _ hn
  omega
set_option maxRecDepth 100000 in
set_option maxHeartbeats 6400000 in
theorem law_lensMore (many : List Int) (a : Option Addr) (n cap lim : Nat) (least : Int) (w : World) (hI : IntsIn w a n many) (hn : n ≤ 9223372036854775807) (hlim : lim < 18446744073709551616) (hl1 : -9223372036854775808 ≤ least) (hl2 : least ≤ 9223372036854775807) :
    Calls Try.prog 5 #[.slice a n cap, .int .u64 (lim : Int), .int .i64 least] w fun e w' => LivesP w e w' := by
  obtain ⟨i0, hi, hz0, hz1, hz2⟩ := info_parts infoInt
  have HLN := Lib.hid hI.len
  have HI := Lib.hid hI
  clear hI
  by_cases hbig : 60 < n
  · have hbz : (60 : Int) < (n : Int) := by omega
    have HUc := Lib.hid (Upd.refl [] w)
    go_enter Try.func5, Try.ntmps5
    go_wp2_with fail
    refine (lives_any _).mono ?_
    rintro e w9 ⟨rfl, hU9⟩
    have HU9 := Lib.hid (HUc.out.then hU9)
    clear hU9
    go_wp2
    go_ret
    exact ⟨rfl, HU9.out⟩
  have hbz : ¬ (60 : Int) < (n : Int) := by omega
  go_enter Try.func5, Try.ntmps5
  go_wp2
  go_loopg [7, 25] 100 (fun gg s7 s25 wr => ∃ i : Nat, i ≤ n ∧ gg = 100 - i ∧ s25 = .int .i64 (i : Nat) ∧ Hid (∀ x ∈ many.take i, 0 ≤ x ∧ x ≤ 1000000) ∧ Hid (OwnX w wr 3 s7 (i64s (dblN many i))) ∧ Hid (Upd [] w wr))
  case atStart => exact ⟨0, by omega, by omega, rfl, Lib.hid (by simp), Lib.hid (OwnX.nil _ _ _), Lib.hid (Upd.refl _ _)⟩
  case round =>
    obtain ⟨i, hin, rfl, rfl, HA, HO, HUc⟩ := hrel
    obtain ⟨va, vc, rfl⟩ := HO.out.form
    have hfl : (i64s (dblN many i)).length = i := by rw [length_i64s, dblN_len many i (by rw [HLN.out]; exact hin)]
    rw [hfl] at HO ⊢
    have HFL := Lib.hid hfl
    clear hfl
    by_cases hc : i < n
    · have hcz : (i : Int) < (n : Int) := by omega
      have hil : i < many.length := by rw [HLN.out]; exact hc
      obtain ⟨b, off, rfl, hc1, _, _⟩ := (HI.out.pure HUc.out).cell i hil
      have HG : Hid (many[i]? = some many[i]) := Lib.hid (List.getElem?_eq_getElem hil)
      have HT : Hid (many.take (i + 1) = many.take i ++ [many[i]]) := Lib.hid (List.take_succ_eq_append_getElem hil)
      generalize many[i] = m at *
      have hw1 : IntKind.i64.wrap ((i : Int) + 1) = ((i + 1 : Nat) : Int) := by rw [IntWalk.i64_in _ (by omega)]; rfl
      clear hil
      by_cases hm0 : m < 0
      ·
        go_wp2_with fail
        refine (lives_any _).mono ?_
        rintro e w9 ⟨rfl, hU9⟩
        have HU9 := Lib.hid (HUc.out.then hU9)
        clear hU9
        go_wp2
        go_ret
        exact ⟨rfl, HU9.out⟩
      by_cases hm1 : 1000000 < m
      ·
        go_wp2_with fail
        refine (lives_any _).mono ?_
        rintro e w9 ⟨rfl, hU9⟩
        have HU9 := Lib.hid (HUc.out.then hU9)
        clear hU9
        go_wp2
        go_ret
        exact ⟨rfl, HU9.out⟩
      obtain ⟨x, rfl⟩ : ∃ x : Nat, m = (x : Int) := ⟨m.toNat, by omega⟩
      have hw2 : IntKind.i64.wrap (2 * (x : Int)) = ((2 * x : Nat) : Int) := by rw [IntWalk.i64_in _ (by omega)]; omega
      have HA2 : Hid (∀ y ∈ many.take (i + 1), 0 ≤ y ∧ y ≤ 1000000) := Lib.hid (by
        rw [HT.out]
        intro y hy
        rcases List.mem_append.1 hy with h | h
        · exact HA.out y h
        · simp at h; omega)
      have HD : Hid (i64s (dblN many (i + 1)) = i64s (dblN many i) ++ [.int .i64 ((2 * x : Nat) : Int)]) := Lib.hid (by rw [dblN_succ many i x HG.out]; simp [i64s])
      have hRz := HO.out.1.alloc (.cells #[.int .i64 ((2 * x : Nat) : Int)] 3)
      rw [HFL.out] at hRz
      go_wp2_with (at_builtin; refine wpList_app _ rfl _ _ 22 rfl 3 i0 _ 1 8 Try.underlying22 hi hz0 hz1 hz2 rfl (by omega) (.slice va i vc) i _ rfl hRz ⟨wr.heap.size, 0, none⟩ 1 1 [.int .i64 ((2 * x : Nat) : Int)] rfl rfl (news1 _ _ _) (by simp [Value.oneCell']) (by unfold maxLen; omega) (by omega) ?_)
      intro v4 w4 hR4 hU4 hT4
      have hap := HO.out.app HUc.out ((Upd.refl [] wr).alloc (.cells #[.int .i64 ((2 * x : Nat) : Int)] 3)) (ys := [.int .i64 ((2 * x : Nat) : Int)]) (by rw [HFL.out]; exact hR4) hU4 hT4
      have HAP := Lib.hid hap
      clear hR4 hU4 hT4 hap hRz
      go_wp2
      go_roundg (100 - (i + 1))
      · exact ⟨i + 1, by omega, rfl, by first | rfl | go_num, HA2, Lib.hid (by rw [HD.out]; exact HAP.out.1), Lib.hid HAP.out.2⟩
      · omega
    · have hcz : ¬ (i : Int) < (n : Int) := by omega
      obtain rfl : i = n := by omega
      have HBD : Hid (∀ x ∈ many, 0 ≤ x ∧ x ≤ 1000000) := Lib.hid (by have := HA.out; rwa [List.take_of_length_le (by rw [HLN.out]; exact Nat.le_refl _)] at this)
      have htw : ints (dblN many i) = twiceL many := by
        have := dblN_all many HBD.out
        rwa [HLN.out] at this
      have hItw : IntsIn wr va i (twiceL many) := by
        rw [← htw]
        refine IntsIn.row (t := 3) (c := vc) ?_ (fun x hx => ?_)
        · have := HO.out.1
          rwa [HFL.out] at this
        · unfold dblN at hx
          obtain ⟨y, hy, rfl⟩ := List.mem_map.1 hx
          have := HA.out y hy
          omega
      have HItw := Lib.hid hItw
      obtain ⟨q, hq⟩ : ∃ q : Nat, q = lim % 9 := ⟨_, rfl⟩
      have hq9 : q < 9 := by omega
      have hrem : ((lim : Int).tmod 9) = (q : Int) := by rw [Int.tmod_eq_emod_of_nonneg (by omega)]; omega
      have hrem2 : ((lim : Int) % 9) = (q : Int) := by omega
      have hconv : IntKind.i64.wrap (q : Int) = (q : Int) := IntWalk.i64_in _ (by omega)
      have hk6 : IntKind.i64.wrap (6 + (q : Int)) = ((6 + q : Nat) : Int) := by rw [IntWalk.i64_in _ (by omega)]; rfl
      have hk7 : IntKind.i64.wrap (((6 + q : Nat) : Int) + 1) = ((6 + q + 1 : Nat) : Int) := by rw [IntWalk.i64_in _ (by omega)]; rfl
      clear hItw htw HA HO
      have HQ := Lib.hid hq
      clear hq
      obtain ⟨u, hu⟩ := used_ex many
      have hu2 : IsUsed many i u := by rwa [HLN.out] at hu
      have hul : u.length ≤ i := by have := hu2.le; exact this
      have hp6 : u.length ≤ 2 ^ (6 + q) := by
        have := Nat.pow_le_pow_right (n := 2) (by omega) (show 6 ≤ 6 + q by omega)
        omega
      have hp7 : u.length ≤ 2 ^ (6 + q + 1) := by
        have := Nat.pow_le_pow_right (n := 2) (by omega) (show 6 ≤ 6 + q + 1 by omega)
        omega
      have HOF1 := Lib.hid (of_any many a i cap ((6 + q : Nat) : Int) wr (HI.out.pure HUc.out) (by omega))
      have HOF2 := Lib.hid (fun w1 (h : Upd [] w w1) => of_any many a i cap ((6 + q + 1 : Nat) : Int) w1 (HI.out.pure h) (by omega))
      have HOF3 := Lib.hid (fun w1 (h : Upd [] wr w1) => of_any (twiceL many) va i vc ((6 + q : Nat) : Int) w1 (HItw.out.pure h) (by omega))
      have HF1 := Lib.hid (of_fits HLN.out hu2 (6 + q) (by omega) (by omega) hp6)
      have HF2 := Lib.hid (of_fits HLN.out hu2 (6 + q + 1) (by omega) (by omega) hp7)
      have HF3 := Lib.hid (of_fits (many := twiceL many) (n := i) (by rw [twiceL, List.length_map]; exact HLN.out) (used_twice HBD.out hu2) (6 + q) (by omega) (by omega) hp6)
      have HCM := Lib.hid (cost_more hu2 (6 + q) hp6)
      have HCT := Lib.hid (cost_twice HBD.out hu2 (6 + q) hp6)
      have HUS := Lib.hid hu2
      have HUT := Lib.hid (used_twice HBD.out hu2)
      have HP6 := Lib.hid hp6
      have HP7 := Lib.hid hp7
      have HTL : Hid ((twiceL many).length = i) := Lib.hid (by rw [twiceL, List.length_map]; exact HLN.out)
      clear hu hu2 hul hp6 hp7 HQ
      go_wp2_with fail
      refine HOF1.out.mono ?_
      rintro e w1 ⟨v1, u1, rfl, hu1, hof, hU1⟩
      obtain rfl : u1 = u := IsUsed.uniq (by rwa [HLN.out] at hu1) HUS.out
      obtain ⟨o1, rfl, hs1, hB1⟩ := of_good hof (by omega) (by omega) (by omega) HP6.out
      have HU1 := Lib.hid (HUc.out.then hU1)
      have HUr1 := Lib.hid hU1
      have HB1 := Lib.hid hB1
      clear hu1 hof hU1 hs1 hB1 HOF1
      go_wp2_with fail
      refine (HOF2.out _ HU1.out).mono ?_
      rintro e w2 ⟨v2, u2, rfl, hu2, hof, hU2⟩
      obtain rfl : u2 = u1 := IsUsed.uniq (by rwa [HLN.out] at hu2) HUS.out
      obtain ⟨o2, rfl, hs2, hB2⟩ := of_good hof (by omega) (by omega) (by omega) HP7.out
      have HB12 := Lib.hid (HB1.out.upd hU2 (by simp))
      have HU2 := Lib.hid (HU1.out.then hU2)
      have HUr2 := Lib.hid (HUr1.out.then hU2)
      have HB2 := Lib.hid hB2
      clear hu2 hof hU2 hs2 hB2 HOF2 HU1 HUr1 HB1
      go_wp2_with fail
      refine (HOF3.out _ HUr2.out).mono ?_
      rintro e w3 ⟨v3, u3, rfl, hu3, hof, hU3⟩
      obtain rfl : u3 = u2 := IsUsed.uniq (by rwa [HTL.out] at hu3) HUT.out
      obtain ⟨o3, rfl, hs3, hB3⟩ := of_good hof (by omega) (by omega) (by omega) HP6.out
      have HB1 := Lib.hid (HB12.out.upd hU3 (by simp))
      have HB23 := Lib.hid (HB2.out.upd hU3 (by simp))
      have HU3 := Lib.hid (HU2.out.then hU3)
      have HItw3 := Lib.hid (HItw.out.pure (HUr2.out.then hU3))
      have HI3 := Lib.hid (HI.out.pure HU3.out)
      have HB3 := Lib.hid hB3
      clear hu3 hof hU3 hs3 hB3 HOF3 HU2 HUr2 HB12 HB2 HItw HUc HUS HUT HP6 HP7 HTL
      generalize ofL many u3 (6 + q) i = LA at *
      generalize ofL many u3 (6 + q + 1) i = LB at *
      generalize ofL (twiceL many) u3 (6 + q) i = LC at *
      have HN1 := Lib.hid (fun w4 (h : Upd [] w3 w4) => cost_any LA many (some ⟨o1, 0, none⟩) a i i cap w4 (fits_ints HF1.out (by omega) (HB1.out.upd h (by simp))) (HI3.out.pure h) (by omega) (fun j hj => by have := HF1.out.le j hj; omega))
      have HN2 := Lib.hid (cost_any LB many (some ⟨o2, 0, none⟩) a i i cap w3 (fits_ints HF2.out (by omega) HB23.out) HI3.out (by omega) (fun j hj => by have := HF2.out.le j hj; omega))
      have HN3 := Lib.hid (fun w4 (h : Upd [] w3 w4) => cost_any LC (twiceL many) (some ⟨o3, 0, none⟩) va i i vc w4 (fits_ints HF3.out (by omega) (HB3.out.upd h (by simp))) (HItw3.out.pure h) (by omega) (fun j hj => by have := HF3.out.le j hj; omega))
      have hcb := costN_le HF1.out (by omega) (by omega)
      have hcm := HCM.out
      have hct := HCT.out
      change costN many LA i ≤ _ at hcb
      have HN1 : Hid (∀ w4, Upd [] w3 w4 → Calls Try.prog 16 #[.slice (some ⟨o1, 0, none⟩) i i, .slice a i cap] w4 fun e w' => NumP (costN many LA i : Nat) w4 e w') := Lib.hid HN1.out
      have HN2 : Hid (Calls Try.prog 16 #[.slice (some ⟨o2, 0, none⟩) i i, .slice a i cap] w3 fun e w' => NumP (costN many LB i : Nat) w3 e w') := Lib.hid HN2.out
      have HN3 : Hid (∀ w4, Upd [] w3 w4 → Calls Try.prog 16 #[.slice (some ⟨o3, 0, none⟩) i i, .slice va i vc] w4 fun e w' => NumP (costN (twiceL many) LC i : Nat) w4 e w') := Lib.hid HN3.out
      clear HCM HCT HItw3
      generalize costN many LA i = CA at *
      generalize costN many LB i = CB at *
      generalize costN (twiceL many) LC i = CC at *
      subst hct
      have hcmz : ¬ (CA : Int) < (CB : Int) := by omega
      have hw2 : IntKind.i64.wrap (2 * (CA : Int)) = ((2 * CA : Nat) : Int) := by rw [IntWalk.i64_in _ (by omega)]; rfl
      have hF0 := Lib.hid (fun w4 => fixed_any w4)
      go_wp2_with fail
      refine HN2.out.mono ?_
      rintro e w4 ⟨rfl, hU4⟩
      have HU34 := Lib.hid hU4
      clear hU4 HN2
      go_wp2_with fail
      refine (HN1.out _ HU34.out).mono ?_
      rintro e w5 ⟨rfl, hU5⟩
      have HU35 := Lib.hid (HU34.out.then hU5)
      clear hU5 HU34
      go_wp2_with fail
      refine (HN3.out _ HU35.out).mono ?_
      rintro e w6 ⟨rfl, hU6⟩
      have HU36 := Lib.hid (HU35.out.then hU6)
      clear hU6 HU35 HN3
      go_wp2_with fail
      refine (HN1.out _ HU36.out).mono ?_
      rintro e w7 ⟨rfl, hU7⟩
      have HU37 := Lib.hid (HU36.out.then hU7)
      clear hU7 HU36 HN1
      go_wp2_with fail
      refine (hF0.out _).mono ?_
      rintro e w8 ⟨g1, c1, g2, rfl, hr1, hr2, hU8, hg1, hg2⟩
      have HU38 := Lib.hid (HU37.out.then hU8)
      obtain ⟨f0, f1, f2, f3, f4, f5, f6⟩ := fix_at
      have d0 := hr1.cell 0 (i64s_get _ _ _ f0)
      have d1 := hr1.cell 143 (i64s_get _ _ _ f1)
      have d2 := hr1.cell 144 (i64s_get _ _ _ f2)
      have d3 := hr1.cell 255 (i64s_get _ _ _ f3)
      have d4 := hr1.cell 256 (i64s_get _ _ _ f4)
      have d5 := hr1.cell 279 (i64s_get _ _ _ f5)
      have d6 := hr1.cell 280 (i64s_get _ _ _ f6)
      have HK1 := Lib.hid (rkind_any (some ⟨g1, 0, none⟩) 288 c1 (ints (fixP 4)) w8 (by omega) (IntsIn.row hr1 fix_bd.1))
      have HK2 := Lib.hid (rkind_any (some ⟨g2, 0, none⟩) 32 32 (ints (List.replicate 32 5)) w8 (by omega) (IntsIn.row hr2 fix_bd.2))
      rw [fix_kind.1] at HK1
      rw [fix_kind.2] at HK2
      clear f0 f1 f2 f3 f4 f5 f6 hr1 hr2 hg1 hg2 hU8 HU37 hF0
      go_wp2_with fail
      refine HK1.out.mono ?_
      rintro e w9 ⟨rfl, rfl⟩
      go_wp2_with fail
      refine HK2.out.mono ?_
      rintro e w9 ⟨rfl, rfl⟩
      clear HK1 HK2
      have HB8 := Lib.hid (HB1.out.upd HU38.out (by simp))
      have HTR := Lib.hid (trim_any LA o1 0 i i least w8 HF1.out.len (Nat.le_refl _) (fun j h => by rw [Nat.zero_add]; exact HB8.out.cell j (i64s_get _ _ _ (List.getElem?_eq_getElem h))) (by omega))
      go_wp2_with fail
      refine HTR.out.mono ?_
      rintro e w9 ⟨v9, m, rfl, htr, hO9, hU9⟩
      have hlm : (LA.take m).length = m := by rw [List.length_take, HF1.out.len]; have := htr.le; omega
      obtain ⟨a9, c9, rfl⟩ := hO9.form
      rw [length_i64s, hlm] at hO9 ⊢
      have hI9 : IntsIn w9 a9 m (ints (LA.take m)) := IntsIn.row (t := 3) (c := c9) (by have := hO9.1; rw [length_i64s, hlm] at this; exact this) (fun x hx => by
        have hx := List.mem_of_mem_take hx
        obtain ⟨j, hj, rfl⟩ := List.getElem_of_mem hx
        have := HF1.out.le j (by rw [← HF1.out.len]; exact hj)
        rw [List.getD_eq_getElem?_getD, List.getElem?_eq_getElem hj] at this
        simp at this
        omega)
      have hle := htr.le
      obtain ⟨M, hM⟩ : ∃ M : Nat, max least 0 = (M : Int) := ⟨(max least 0).toNat, by omega⟩
      obtain ⟨K, hK⟩ : ∃ K : Nat, min (i : Int) (M : Int) = (K : Int) := ⟨min i M, by omega⟩
      have hKm : K ≤ m := by rcases htr.few with h | h <;> omega
      have hKz : ¬ (m : Int) < (K : Int) := by omega
      have hmi : (m : Int) ≤ (i : Int) := by omega
      have hm0 : (0 : Int) ≤ (m : Int) := by omega
      have hmiz : ¬ (i : Int) < (m : Int) := by omega
      have HB9 := Lib.hid (HB8.out.upd hU9 (by simp))
      have HSM := Lib.hid (same_any (ints (LA.take m)) (ints (LA.take m)) a9 (some ⟨o1, 0, none⟩) m m c9 i w9 hI9 (by rw [ints_take]; exact (fits_ints HF1.out (by omega) HB9.out).take (by omega)) (by omega) (by omega))
      have HLast : Hid ((M : Int) < (m : Int) → ∃ (g p : Nat) (y : Nat), m = p + 1 ∧ a9 = some ⟨g, 0, none⟩ ∧ w9.cell? ⟨g, p, none⟩ = some (.int .i64 (y : Int)) ∧ ¬ (y : Int) = 0) := Lib.hid (fun h => by
        have hmp : 0 < m := by omega
        have hr := hO9.1
        rw [length_i64s, hlm] at hr
        obtain ⟨g, cc, e, _, _⟩ := hr.form' hmp
        cases e
        have hLm : m - 1 < LA.length := by rw [HF1.out.len]; omega
        refine ⟨g, m - 1, LA[m - 1], by omega, rfl, hr.cell (m - 1) ?_, ?_⟩
        · rw [i64s, List.getElem?_map, List.getElem?_take, if_pos (by omega), List.getElem?_eq_getElem hLm]
          rfl
        · have := htr.last
          rw [List.getD_eq_getElem?_getD, List.getElem?_eq_getElem hLm] at this
          simp at this
          omega)
      have HZero : Hid (∀ j, m ≤ j → j < i → w9.cell? ⟨o1, j, none⟩ = some (.int .i64 0)) := Lib.hid (fun j h1 h2 => by
        have h3 : j < LA.length := by rw [HF1.out.len]; exact h2
        have h4 := HB9.out.cell j (i64s_get LA j LA[j] (List.getElem?_eq_getElem h3))
        have h5 := htr.zero j h1 h2
        rw [List.getD_eq_getElem?_getD, List.getElem?_eq_getElem h3] at h5
        simp at h5
        rw [h5] at h4
        exact h4)
      have HU39 := Lib.hid (HU38.out.then hU9)
      clear htr hO9 hI9 hU9 hlm hle hKm HTR HB1 HB23 HB3 HB8 HI3 HU38 HF1 HF2 HF3 hcb
      go_wp2_with fail
      refine HSM.out.mono ?_
      rintro e w10 ⟨rfl, hU10⟩
      rw [decide_eq_true rfl]
      have HUc := Lib.hid ((HU3.out.then HU39.out).then hU10)
      have HZ10 : Hid (∀ j, m ≤ j → j < i → w10.cell? ⟨o1, j, none⟩ = some (.int .i64 0)) := Lib.hid (fun j h1 h2 => by
        have h7 := HZero.out j h1 h2
        exact (hU10.cell (World.block_lt_of_cell? w9 _ h7) (by simp)).trans h7)
      have HLa : Hid ((M : Int) < (m : Int) → ∃ (g p : Nat) (y : Nat), m = p + 1 ∧ a9 = some ⟨g, 0, none⟩ ∧ w10.cell? ⟨g, p, none⟩ = some (.int .i64 (y : Int)) ∧ ¬ (y : Int) = 0) := Lib.hid (fun h => by
        obtain ⟨g, p, y, h1, h2, h3, h4⟩ := HLast.out h
        exact ⟨g, p, y, h1, h2, (hU10.cell (World.block_lt_of_cell? w9 _ h3) (by simp)).trans h3, h4⟩)
      clear hU10 HSM HB9 HLast HZero HU39 HU3
      rcases Int.lt_or_le (M : Int) (m : Int) with hlt | hge
      · obtain ⟨g, p, y, hmp, rfl, hcy, hy0⟩ := HLa.out hlt
        have hwp : IntKind.i64.wrap ((m : Int) - 1) = (p : Int) := by rw [IntWalk.i64_in _ (by omega)]; omega
        have hpm : (p : Int) < (m : Int) := by omega
        have hyb : ((y : Int) == 0) = false := by simpa using hy0
        have HMP := Lib.hid hmp
        clear hmp
        clear HLa
        rcases Nat.lt_or_ge m i with hmlt | hmge
        · have hmltz : ¬ i - m = 0 := by omega
          go_wp2
          go_loopg [206] 100 (fun gg s206 wr => ∃ j : Nat, j ≤ i - m ∧ gg = 100 - j ∧ s206 = .int .i64 (j : Nat) ∧ wr = w10)
          case atStart => exact ⟨0, by omega, by omega, rfl, rfl⟩
          case round =>
            obtain ⟨j, hj, rfl, rfl, hwr⟩ := hrel
            subst hwr
            by_cases hc : j < i - m
            · have hcz : (j : Int) < ((i - m : Nat) : Int) := by omega
              have hcj := HZ10.out (m + j) (by omega) (by omega)
              have hw1 : IntKind.i64.wrap ((j : Int) + 1) = ((j + 1 : Nat) : Int) := by rw [IntWalk.i64_in _ (by omega)]; rfl
              go_wp2
              go_roundg (100 - (j + 1))
              · exact ⟨j + 1, by omega, rfl, by first | rfl | go_num, rfl⟩
              · omega
            · have hcz : ¬ (j : Int) < ((i - m : Nat) : Int) := by omega
              obtain rfl : j = i - m := by omega
              go_wp2_with fail
              refine (lives_any _).mono ?_
              rintro e w9 ⟨rfl, hU9⟩
              have HU9 := Lib.hid (HUc.out.then hU9)
              clear hU9
              go_wp2
              go_ret
              exact ⟨rfl, HU9.out⟩
        · obtain rfl : m = i := by omega
          go_wp2
          go_loopg [206] 100 (fun gg s206 wr => gg = 100 ∧ s206 = .int .i64 0 ∧ wr = w10)
          case atStart => exact ⟨rfl, rfl, rfl⟩
          case round =>
            obtain ⟨rfl, rfl, hwr⟩ := hrel
            subst hwr
            go_wp2_with fail
            refine (lives_any _).mono ?_
            rintro e w9 ⟨rfl, hU9⟩
            have HU9 := Lib.hid (HUc.out.then hU9)
            clear hU9
            go_wp2
            go_ret
            exact ⟨rfl, HU9.out⟩
      · have hge2 : ¬ (M : Int) < (m : Int) := by omega
        clear HLa
        rcases Nat.lt_or_ge m i with hmlt | hmge
        · have hmltz : ¬ i - m = 0 := by omega
          go_wp2
          go_loopg [206] 100 (fun gg s206 wr => ∃ j : Nat, j ≤ i - m ∧ gg = 100 - j ∧ s206 = .int .i64 (j : Nat) ∧ wr = w10)
          case atStart => exact ⟨0, by omega, by omega, rfl, rfl⟩
          case round =>
            obtain ⟨j, hj, rfl, rfl, hwr⟩ := hrel
            subst hwr
            by_cases hc : j < i - m
            · have hcz : (j : Int) < ((i - m : Nat) : Int) := by omega
              have hcj := HZ10.out (m + j) (by omega) (by omega)
              have hw1 : IntKind.i64.wrap ((j : Int) + 1) = ((j + 1 : Nat) : Int) := by rw [IntWalk.i64_in _ (by omega)]; rfl
              go_wp2
              go_roundg (100 - (j + 1))
              · exact ⟨j + 1, by omega, rfl, by first | rfl | go_num, rfl⟩
              · omega
            · have hcz : ¬ (j : Int) < ((i - m : Nat) : Int) := by omega
              obtain rfl : j = i - m := by omega
              go_wp2_with fail
              refine (lives_any _).mono ?_
              rintro e w9 ⟨rfl, hU9⟩
              have HU9 := Lib.hid (HUc.out.then hU9)
              clear hU9
              go_wp2
              go_ret
              exact ⟨rfl, HU9.out⟩
        · obtain rfl : m = i := by omega
          go_wp2
          go_loopg [206] 100 (fun gg s206 wr => gg = 100 ∧ s206 = .int .i64 0 ∧ wr = w10)
          case atStart => exact ⟨rfl, rfl, rfl⟩
          case round =>
            obtain ⟨rfl, rfl, hwr⟩ := hrel
            subst hwr
            go_wp2_with fail
            refine (lives_any _).mono ?_
            rintro e w9 ⟨rfl, hU9⟩
            have HU9 := Lib.hid (HUc.out.then hU9)
            clear hU9
            go_wp2
            go_ret
            exact ⟨rfl, HU9.out⟩
end Go.Proofs.Ytdehkaknbmbieaa

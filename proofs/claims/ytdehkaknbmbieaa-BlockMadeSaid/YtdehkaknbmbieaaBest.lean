/- Reference of lens: Best: its walk. -/
import Derived.Test.YtdehkaknbmbieaaLea
import Derived.Test.YtdehkaknbmbieaaCost
namespace Go.Proofs.Ytdehkaknbmbieaa
set_option linter.unusedVariables false
set_option linter.unusedSimpArgs false
set_option linter.unusedSectionVars false
open Go.RowKit
set_option linter.unusedVariables false
set_option linter.unusedSimpArgs false

theorem fallW_snoc (many : List Int) (u : List Nat) (i : Nat) (h : i < u.length) : fallW many (u.take (i + 1)) = nearN (many.getD u[i] 0) :: fallW many (u.take i) := by
  unfold fallW
  rw [List.take_succ_eq_append_getElem h, List.map_append, List.reverse_append]
  rfl
theorem fallW_le (many : List Int) (u : List Nat) : ∀ x ∈ fallW many u, x ≤ 1073741824 := by
  intro x hx
  unfold fallW at hx
  rw [List.mem_reverse] at hx
  obtain ⟨s, _, rfl⟩ := List.mem_map.1 hx
  exact nearN_le _
theorem fallW_len (many : List Int) (u : List Nat) : (fallW many u).length = u.length := by simp [fallW]
theorem Row.room {w : World} {e : TypeId} {a : Option Addr} {n c : Nat} {xs : List Value} (h : Row w e 1 (.slice a n c) n xs) : n ≤ c := by
  rcases h.2 with ⟨e, _⟩ | ⟨g, c2, cur, e, _, _, h3, _⟩
  · cases e; exact Nat.le_refl _
  · cases e; exact h3
set_option maxRecDepth 100000 in
set_option maxHeartbeats 6400000 in
theorem best_any (many : List Int) (u : List Nat) (a : Option Addr) (n cap L : Nat) (w : World) (hI : IntsIn w a n many) (hn : n ≤ 300) (hL : L ≤ 15) (h1L : 1 ≤ L) (hu : IsUsed many many.length u) (hk : u.length ≤ 100) :
    Calls Try.prog 17 #[.slice a n cap, .int .i64 (L : Nat)] w fun e w' => NumP (optI (leastP (fallW many u) 1 L (2 ^ L))) w e w' := by
  obtain ⟨i0, hi, hz0, hz1, hz2⟩ := info_parts infoInt
  have HRU := Lib.hid (rused_any many a n cap w hI (by omega))
  have HI := Lib.hid hI
  have HLN := Lib.hid hI.len
  have HUs := Lib.hid hu
  obtain ⟨k, hk2⟩ : ∃ k, u.length = k := ⟨_, rfl⟩
  rw [hk2] at hk
  have HK := Lib.hid hk2
  clear hI hu hk2
  go_enter Try.func17, Try.ntmps17
  go_wp2_with fail
  refine HRU.out.mono ?_
  rintro e w1 ⟨v1, u1, rfl, hu1, hO1, hU1⟩
  obtain rfl := hu1.uniq HUs.out
  obtain ⟨a1, c1, rfl⟩ := hO1.form
  have hR1 := hO1.1
  rw [length_i64s, HK.out] at hR1 ⊢
  have HR1 := Lib.hid hR1
  have HU1 := Lib.hid hU1
  clear hu1 hO1 hU1 hR1 HRU
  go_wp2
  go_loopg [5, 13] 1000 (fun gg s5 s13 wr => ∃ i : Nat, i ≤ k ∧ gg = 1000 - i ∧ s13 = .int .i64 (i : Nat) ∧ Hid (OwnX w wr 3 s5 (i64s (fallW many (u1.take i)))) ∧ Hid (Upd [] w1 wr))
  case atStart => exact ⟨0, by omega, rfl, rfl, Lib.hid (OwnX.nil _ _ _), Lib.hid (Upd.refl _ _)⟩
  case round =>
    obtain ⟨i, hik, rfl, rfl, HO, HU⟩ := hrel
    by_cases hc : i < k
    · have hcz : (i : Int) < (k : Int) := by omega
      have hiu : i < u1.length := by rw [HK.out]; exact hc
      obtain ⟨g, cc, hv, hg, hle⟩ := HR1.out.form' (by omega)
      cases hv
      have hd1 := (HR1.out.upd HU.out (by simp)).cell i (u := .int .i64 (u1[i] : Nat)) (by simp [i64s, hiu])
      have hsn : u1[i] < n := by have := ((HUs.out.mem u1[i]).1 (List.getElem_mem hiu)).1; rwa [HLN.out] at this
      have hsm : u1[i] < many.length := by rw [HLN.out]; exact hsn
      obtain ⟨b2, o2, rfl, hc2, r1, r2⟩ := (HI.out.pure (HU1.out.then HU.out)).cell u1[i] hsm
      have HFS : Hid (fallW many (u1.take (i + 1)) = nearN many[u1[i]] :: fallW many (u1.take i)) := Lib.hid (by rw [fallW_snoc many u1 i hiu]; simp [List.getD_eq_getElem?_getD, hsm])
      have hfl : (fallW many (u1.take i)).length = i := by rw [fallW_len, List.length_take]; omega
      generalize many[u1[i]] = m at *
      generalize u1[i] = s at *
      have HNR := Lib.hid (fun w => rnear_any m w)
      generalize nearN m = N at *
      generalize fallW many (u1.take i) = FW at *
      have hw1 : IntKind.i64.wrap ((i : Int) + 1) = ((i + 1 : Nat) : Int) := by rw [IntWalk.i64_in _ (by omega)]; rfl
      have hsz : (s : Int) < (n : Int) := by omega
      have hRn : Row (wr.alloc (.cells #[.int .i64 (N : Nat)] 3)) 3 1 (.slice (some ⟨wr.heap.size, 0, none⟩) 1 1) 1 [.int .i64 (N : Nat)] := Row.new wr [.int .i64 (N : Nat)] 3 1 1 (by unfold maxLen; omega) rfl
      have HRn := Lib.hid hRn
      have HFL := Lib.hid hfl
      have hE : ∀ ys : List Value, ys = [] ∨ True := fun _ => .inr trivial
      clear hiu hsm hg hle hRn hfl hE
      have hR0 := HO.out.1
      rw [length_i64s, HFL.out] at hR0
      rcases hR0.2 with ⟨e, h0⟩ | ⟨g2, c3, cur, e, _⟩
      · subst e
        obtain rfl : i = 0 := h0
        have HF0 : Hid (FW = []) := Lib.hid (List.eq_nil_of_length_eq_zero HFL.out)
        clear hR0
        go_wp2_with fail
        refine (HNR.out _).mono ?_
        rintro e w7 ⟨rfl, rfl⟩
        go_wp2_with (at_builtin; refine wpList_append_own_none rfl _ _ 22 rfl 0 3 i0 1 Try.underlying22 hi (.slice (some ⟨wr.heap.size, 0, none⟩) 1 1) 1 _ rfl HRn.out rfl ?_)
        go_wp2
        go_roundg (1000 - (0 + 1))
        · exact ⟨1, by omega, rfl, by first | rfl | go_num, Lib.hid (by
            have h := HFS.out
            rw [HF0.out] at h
            rw [h]
            exact ⟨HRn.out, fun q hq => by simp [Value.ownBlock] at hq; have h1 := HU1.out.size; have h2 := HU.out.size; omega⟩), Lib.hid (HU.out.alloc _)⟩
        · omega
      · subst e
        have hn5 : ∀ j u, (i64s FW)[j]? = some u → (wr.alloc (.cells #[.int .i64 (N : Nat)] 3)).cell? (Addr.add ⟨g2, 0, none⟩ j) = some u := fun j u hj => by
          rw [add_flat, Nat.zero_add]
          exact (((Upd.refl [] wr).alloc (.cells #[.int .i64 (N : Nat)] 3)).at (hR0.lt g2 rfl) (by simp) j).trans (hR0.cell j hj)
        have HN5 := Lib.hid hn5
        have HIL : Hid ((i64s FW).length = i) := Lib.hid (by rw [length_i64s, HFL.out])
        clear hR0 hn5
        go_wp2_with fail
        refine (HNR.out _).mono ?_
        rintro e w7 ⟨rfl, rfl⟩
        go_wp2_with (at_builtin; refine wpList_app _ rfl _ _ 22 rfl 3 i0 _ 1 8 Try.underlying22 hi hz0 hz1 hz2 rfl (by omega) (.slice (some ⟨wr.heap.size, 0, none⟩) 1 1) 1 _ rfl HRn.out ⟨g2, 0, none⟩ i c3 (i64s FW) rfl (by rw [Nat.mul_one]; exact HIL.out) HN5.out (i64s_one _) (by unfold maxLen; omega) (by omega) ?_)
        intro v4 w4 hR4 hU4 hT4
        have hua := (Upd.refl [] wr).alloc (.cells #[.int .i64 (N : Nat)] 3)
        have HAP := Lib.hid (ruLast (us := N :: FW) (HU1.out.then HU.out) (fun b hb => by simp [Value.ownBlock] at hb; omega) hua hR4 hU4 hT4 (by simp [i64s]))
        have HU4 : Hid (Upd [] w1 w4) := Lib.hid (HU.out.trans (hua.trans hU4 (fun q hq => by simp [Value.ownBlock] at hq; exact .inr (by omega))) (fun q hq => by simp at hq))
        clear hR4 hU4 hT4 hua
        go_wp2
        go_roundg (1000 - (i + 1))
        · exact ⟨i + 1, by omega, rfl, by first | rfl | go_num, Lib.hid (by rw [HFS.out]; exact HAP.out.1), HU4⟩
        · omega
    · have hcz : ¬ (i : Int) < (k : Int) := by omega
      obtain rfl : i = k := by omega
      rw [List.take_of_length_le (by rw [HK.out]; exact Nat.le_refl _)] at HO
      have hfl : (fallW many u1).length = i := by rw [fallW_len, HK.out]
      obtain ⟨a5, c5, rfl, hI5⟩ := HO.out.ints (fun x hx => by have := fallW_le many u1 x hx; omega)
      have hcap := HO.out.1
      rw [length_i64s] at hcap
      have hcap2 := Row.room hcap
      have HLE := Lib.hid (least_any L hL wr (fallW many u1) a5 c5 1 (2 ^ L) hI5 hcap2 (by omega) (fallW_le many u1) h1L (by
        have := Nat.pow_le_pow_right (n := 2) (by omega) hL
        omega))
      rw [hfl] at HLE ⊢
      have HUf := Lib.hid (HU1.out.then HU.out)
      clear hfl hI5 hcap hcap2 HO
      obtain ⟨RES, hRES⟩ : ∃ RES, optI (leastP (fallW many u1) 1 L (2 ^ L)) = RES := ⟨_, rfl⟩
      rw [hRES] at HLE
      have HRES := Lib.hid hRES
      clear hRES
      go_wp2
      go_loopg [8, 9] 100 (fun gg s8 s9 wx => ∃ j : Nat, j ≤ L ∧ gg = 100 - j ∧ s9 = .int .i64 (j : Nat) ∧ s8 = .int .i64 ((2 ^ j : Nat) : Int) ∧ wx = wr)
      case atStart => exact ⟨0, by omega, rfl, rfl, rfl, rfl⟩
      case round =>
        obtain ⟨j, hj, rfl, rfl, rfl, hwr⟩ := hrel
        subst hwr
        have hpj : 2 ^ j ≤ 32768 := by
          have := Nat.pow_le_pow_right (n := 2) (by omega) (show j ≤ 15 by omega)
          omega
        have HPJ : Hid (2 ^ (j + 1) = 2 * 2 ^ j) := Lib.hid (by rw [Nat.pow_succ]; omega)
        by_cases hjl : j < L
        · have hjz : (j : Int) < (L : Int) := by omega
          have hw1 : IntKind.i64.wrap ((j : Int) + 1) = ((j + 1 : Nat) : Int) := by rw [IntWalk.i64_in _ (by omega)]; rfl
          obtain ⟨U, hU⟩ : ∃ U, 2 ^ j = U := ⟨_, rfl⟩
          rw [hU] at hpj HPJ ⊢
          clear hU
          have hw2 : IntKind.i64.wrap (2 * (U : Int)) = ((2 * U : Nat) : Int) := by rw [IntWalk.i64_in _ (by omega)]; simp
          go_wp2
          go_roundg (100 - (j + 1))
          · exact ⟨j + 1, by omega, rfl, by first | rfl | go_num, by rw [HPJ.out]; first | rfl | go_num, rfl⟩
          · omega
        · have hjz : ¬ (j : Int) < (L : Int) := by omega
          obtain rfl : j = L := by omega
          obtain ⟨U, hU⟩ : ∃ U, 2 ^ j = U := ⟨_, rfl⟩
          rw [hU] at HLE ⊢
          clear hU HPJ hpj
          go_wp2_with fail
          refine HLE.out.mono ?_
          rintro e w9 ⟨rfl, rfl⟩
          go_wp2
          go_ret
          exact ⟨by rw [HRES.out]; rfl, HUf.out⟩
end Go.Proofs.Ytdehkaknbmbieaa

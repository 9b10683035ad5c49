/- Reference of lens: Used: its walk. -/
import Derived.Test.YtdehkaknbmbieaaUsed
import Derived.Test.YtdehkaknbmbieaaFil
import Derived.ArgAppend
namespace Go.Proofs.Ytdehkaknbmbieaa
set_option linter.unusedVariables false
set_option linter.unusedSimpArgs false
set_option linter.unusedSectionVars false
open Go.RowKit
set_option linter.unusedVariables false
set_option linter.unusedSimpArgs false

def UsedP (many : List Int) (w : World) (e : Ending) (w' : World) : Prop := ∃ v u, e = .returned v ∧ IsUsed many many.length u ∧ OwnX w w' 3 v (i64s u) ∧ Upd [] w w'
theorem newsP2 (w : World) (v : Value) : ∀ j u, [v][j]? = some u → (w.alloc (.cells #[v] 3)).cell? ((⟨w.heap.size, 0, none⟩ : Addr).add j) = some u := World.news_of_block (cs := #[v]) (t := 3) (fr := (0, 0)) (heap_alloc_new _ _)
theorem holdTake {wr W : World} {g vc k p : Nat} {us : List Nat} (hR : Row wr 3 1 (.slice (some ⟨g, 0, none⟩) k vc) k (i64s us)) (hU : Upd [] wr W) : ∀ j u, (i64s (us.take p))[j]? = some u → W.cell? (Addr.add ⟨g, 0, none⟩ j) = some u := by
  intro j u hj
  have h2 : (i64s us)[j]? = some u := by
    rw [i64s, List.map_take, List.getElem?_take] at hj
    split at hj
    · exact hj
    · cases hj
  rw [add_flat, Nat.zero_add]
  exact (hU.at (hR.lt g rfl) (by simp) j).trans (hR.cell j h2)
theorem ruLast {w wr w3 w5 : World} {v3 v5 : Value} {L : List Value} {us : List Nat} {n : Nat} (hU : Upd [] w wr) (hown : ∀ b, v3.ownBlock = some b → wr.heap.size ≤ b) (hU3 : Upd [] wr w3)
    (hR5 : Row w5 3 1 v5 n L) (hU5 : Upd v3.ownBlock.toList w3 w5) (hT5 : Later w3 v3 v5) (hL : L = i64s us) :
    OwnX w w5 3 v5 (i64s us) ∧ Upd [] w w5 := by
  have hl : n = L.length := by
    rw [← Nat.mul_one n]
    exact hR5.1.symm
  subst hL
  rw [hl] at hR5
  refine ⟨⟨hR5, fun k hk => ?_⟩, hU.trans (hU3.trans hU5 (fun q hq => .inr (hown q (by simpa using hq)))) (fun q hq => by simp at hq)⟩
  have hs := hU.size
  rcases hT5 with h1 | ⟨g, h1, h2⟩
  · have := hown k (by rw [← h1]; exact hk); omega
  · rw [h1] at hk; simp at hk; have := hU3.size; omega
theorem near_take {many : List Int} {u : List Nat} (hs : u.Pairwise (Ahead many)) (k : Nat) (hk : k < u.length) (N : Nat) (h : nearN (many.getD u[k] 0) ≤ N) : ∀ i, i ∈ u.take (k + 1) → nearN (many.getD i 0) ≤ N := by
  intro i hi
  obtain ⟨j, hj, rfl⟩ := List.getElem_of_mem hi
  rw [List.getElem_take]
  rw [List.length_take] at hj
  by_cases e : j = k
  · subst e; exact h
  · have := List.pairwise_iff_getElem.1 hs j k (by omega) hk (by omega)
    unfold Ahead at this
    omega
set_option maxRecDepth 100000 in
set_option maxHeartbeats 6400000 in
theorem rused_any (many : List Int) (a : Option Addr) (n cap : Nat) (w : World) (hI : IntsIn w a n many) (hn : n ≤ 17592186044416) :
    Calls Try.prog 12 #[.slice a n cap] w fun e w' => UsedP many w e w' := by
  obtain ⟨i0, hi, hz0, hz1, hz2⟩ := info_parts infoInt
  have HI := Lib.hid hI
  have HLN := Lib.hid hI.len
  clear hI
  go_enter Try.func12, Try.ntmps12
  go_wp2
  go_loopg [3, 10] 17592186044416 (fun gg s3 s10 wr => ∃ (i : Nat) (us : List Nat), i ≤ n ∧ gg = 17592186044416 - i ∧ s10 = .int .i64 (i : Nat) ∧ Hid (IsUsed many i us) ∧ Hid (OwnX w wr 3 s3 (i64s us)) ∧ Hid (Upd [] w wr))
  case atStart => exact ⟨0, [], by omega, rfl, rfl, Lib.hid (IsUsed.nil _), Lib.hid (OwnX.nil _ _ _), Lib.hid (Upd.refl _ _)⟩
  case round =>
    obtain ⟨i, us, hin, rfl, rfl, HS, HO, HU⟩ := hrel
    obtain ⟨k, hk⟩ : ∃ k, us.length = k := ⟨_, rfl⟩
    obtain ⟨va, vc, rfl⟩ := HO.out.form
    rw [length_i64s, hk] at HO ⊢
    obtain ⟨K0, hK0⟩ : ∃ K0, (i64s us).length = K0 := ⟨_, rfl⟩
    have HK0 : Hid (K0 = k) := Lib.hid (by rw [← hK0, length_i64s, hk])
    clear hK0
    have hki : k ≤ i := by have := HS.out.le; omega
    have HK := Lib.hid hk
    clear hk
    by_cases hc : i < n
    · have hcz : (i : Int) < (n : Int) := by omega
      have hil : i < many.length := by rw [HLN.out]; exact hc
      obtain ⟨b, off, rfl, hc1, r1, r2⟩ := (HI.out.pure HU.out).cell i hil
      have HG : Hid (many.getD i 0 = many[i]) := Lib.hid (by simp [List.getD_eq_getElem?_getD, hil])
      generalize many[i] = m at *
      have hw1 : IntKind.i64.wrap ((i : Int) + 1) = ((i + 1 : Nat) : Int) := by rw [IntWalk.i64_in _ (by omega)]; rfl
      clear hil
      by_cases hp : m ≤ 0
      · have HS2 : Hid (IsUsed many (i + 1) us) := Lib.hid (HS.out.skip (by rw [HG.out]; omega))
        go_wp2
        go_roundg (17592186044416 - (i + 1))
        · exact ⟨i + 1, us, by omega, rfl, by first | rfl | go_num, HS2, HO, HU⟩
        · omega
      · have HNR := Lib.hid (fun w => rnear_any m w)
        have HGN : Hid (nearN (many.getD i 0) = nearN m) := Lib.hid (by rw [HG.out])
        have HP : Hid (0 < many.getD i 0) := Lib.hid (by rw [HG.out]; omega)
        generalize nearN m = N at *
        go_wp2
        obtain ⟨wo, hwo⟩ : ∃ wo : World, wo = wr := ⟨_, rfl⟩
        subst hwo
        go_loopg [6] 17592186044416 (fun gg s6 wr => ∃ p : Nat, p ≤ k ∧ gg = 17592186044416 - (k - p) ∧ s6 = .int .i64 (p : Nat) ∧ wr = wo ∧ Hid (∀ j, j ∈ us.drop p → N < nearN (many.getD j 0)))
        case atStart => exact ⟨k, by omega, by omega, rfl, rfl, Lib.hid (fun j hj => by rw [List.drop_of_length_le (by rw [HK.out]; exact Nat.le_refl _)] at hj; simp at hj)⟩
        case round =>
          obtain ⟨p, hpk, rfl, rfl, hwr, HD⟩ := hrel
          subst hwr
          rcases Nat.eq_zero_or_pos p with hp0 | hp0
          · subst hp0
            have hpz : (0 : Int) ≤ 0 := by omega
            have HT : Hid (∀ j, j ∈ us.take 0 → nearN (many.getD j 0) ≤ N) := Lib.hid (fun j hj => by simp at hj)
            have hR0 := HO.out.1
            rw [length_i64s, HK.out] at hR0
            rcases hR0.2 with ⟨e, _⟩ | ⟨g, c2, cur, e, _⟩
            · cases e
              have hus : us = [] := List.eq_nil_of_length_eq_zero HK.out
              have HDL : Hid ((i64s (us.drop 0)).length = 0) := Lib.hid (by rw [hus]; rfl)
              have HN7 : Hid (∀ j u, (i64s (us.drop 0))[j]? = some u → ((wr.alloc (.cells #[] 3)).alloc (.cells #[.int .i64 (i : Int)] 3)).cell? (Addr.add ⟨wr.heap.size, 0, none⟩ j) = some u) := Lib.hid (fun j u hj => by rw [hus] at hj; simp [i64s] at hj)
              clear hus
              have hnw2 := newsP wr #[] 3 (.int .i64 (i : Int)) 3 (by simp [Value.oneCell'])
              go_wp2_with (at_builtin; refine wpList_append_grows _ rfl _ _ 22 rfl 3 i0 _ 1 8 Try.underlying22 hi hz0 hz1 hz2 rfl (by omega) (none) 0 0 ([]) rfl (fun _ => ⟨rfl, rfl⟩) rfl (fun b hb => by cases hb) ⟨wr.heap.size + 1, 0, none⟩ 1 1 [.int .i64 (i : Int)] rfl rfl hnw2 (by simp [Value.oneCell']) (by omega) (by unfold maxLen; omega) (by omega) ?_)
              intro v3 w3 hr3 hg3
              have hU3 := (((Upd.refl [] wr).alloc (.cells #[] 3)).alloc (.cells #[.int .i64 (i : Int)] 3)).grown hg3 (row := none) (by simp)
              have hown : ∀ b, v3.ownBlock = some b → wr.heap.size ≤ b := fun b hb => by have h1 := (World.ownsRow.lt hr3 b hb).1; have h2 := ((Upd.refl [] wr).alloc (.cells #[] 3)).size; (try simp at h1); (try simp at h2); omega
              have hR3 := Row.of_owns hr3
              obtain ⟨va3, vc3, rfl⟩ := hR3.form
              have hn7 : ∀ j u, (i64s (us.drop 0))[j]? = some u → w3.cell? (Addr.add ⟨wr.heap.size, 0, none⟩ j) = some u := fun j u hj => by have h7 := HN7.out j u hj; exact (World.cell?_of_block (hg3.block _ (by have := World.block_lt_of_cell? _ _ h7; simp at this ⊢; omega) (by simp))).trans h7
              have HU3 := Lib.hid hU3
              have HOWN := Lib.hid hown
              have HR3 := Lib.hid hR3
              clear hr3 hg3 hU3 hown hnw2
              go_wp2_with (at_builtin; refine wpList_app _ rfl _ _ 22 rfl 3 i0 _ 1 8 Try.underlying22 hi hz0 hz1 hz2 rfl (by omega) (.slice va3 (0 + 1) vc3) (0 + 1) _ rfl hR3 ⟨wr.heap.size, 0, none⟩ 0 0 (i64s (us.drop 0)) rfl (by rw [Nat.mul_one]; exact HDL.out) hn7 (i64s_one _) (by unfold maxLen; omega) (by omega) ?_)
              intro v5 w5 hR5 hU5 hT5
              have HAP := Lib.hid (ruLast (us := us.take 0 ++ i :: us.drop 0) HU.out HOWN.out HU3.out hR5 hU5 hT5 (by simp [i64s]))
              clear hR3 hR5 hU5 hT5 hn7
              go_wp2
              go_roundg (17592186044416 - (i + 1))
              · exact ⟨i + 1, us.take 0 ++ i :: us.drop 0, by omega, rfl, by first | rfl | go_num, Lib.hid (HS.out.ins HP.out 0 (by rw [HK.out]; omega) (fun j hj => by rw [HGN.out]; exact HT.out j hj) (fun j hj => by rw [HGN.out]; exact HD.out j hj)), Lib.hid HAP.out.1, Lib.hid HAP.out.2⟩
              · omega
            · cases e
              have hR := HO.out.1
              rw [length_i64s, HK.out] at hR
              have hgl := hR.lt g rfl
              have hkv : k ≤ vc := by rcases hR.2 with ⟨e, _⟩ | ⟨g3, c3, cur3, e, _, _, h3, _⟩ <;> cases e; exact h3
              have hol : (i64s (us.take 0)).length = 0 := by rw [length_i64s, List.length_take, HK.out]; omega
              by_cases hpk2 : 0 < k
              · have hdl : (i64s (us.drop 0)).length = k - 0 := by rw [length_i64s, List.length_drop, HK.out]
                have hn0 : ∀ j u, (i64s (us.drop 0))[j]? = some u → (wr.alloc (.cells #[] 3)).cell? (Addr.add ⟨g, 0, none⟩ j) = some u := fun j u hj => by rw [i64s, List.map_drop, List.getElem?_drop] at hj; rw [add_flat]; exact (((Upd.refl [] wr).alloc (.cells #[] 3)).at hgl (by simp) _).trans (hR.cell _ hj)
                have HR := Lib.hid hR
                have hpkz : (0 : Int) ≤ (k : Int) := by omega
                have hvz : ¬ vc = 0 := by omega
                have hkvz : (k : Int) ≤ (vc : Int) := by omega
                go_wp2_with (at_builtin; refine wpList_append_grows _ rfl _ _ 22 rfl 3 i0 _ 1 8 Try.underlying22 hi hz0 hz1 hz2 rfl (by omega) (some ⟨wr.heap.size, 0, none⟩) 0 0 [] rfl (fun e => by cases e) rfl (fun b hb j u hj => by simp at hj) ⟨g, 0, none⟩ (k - 0) (vc - 0) (i64s (us.drop 0)) rfl (by rw [Nat.mul_one]; exact hdl) hn0 (i64s_one _) (by omega) (by unfold maxLen; omega) (by omega) ?_)
                intro v7 w7 hr7 hg7
                have hR7 : Row w7 3 1 v7 (k - 0) (i64s (us.drop 0)) := Row.of_owns hr7
                obtain ⟨g7, c7, rfl, hg7l, _⟩ := hR7.form' (by omega)
                have hU7 : Upd [] wr w7 := ((Upd.refl [] wr).alloc (.cells #[] 3)).grown hg7 (row := none) (by simp)
                have HDL : Hid ((i64s (us.drop 0)).length = k - 0) := Lib.hid hdl
                have HN7 : Hid (∀ j u, (i64s (us.drop 0))[j]? = some u → (w7.alloc (.cells #[.int .i64 (i : Int)] 3)).cell? (Addr.add ⟨g7, 0, none⟩ j) = some u) := Lib.hid (fun j u hj => by rw [add_flat, Nat.zero_add]; exact (((Upd.refl [] w7).alloc (.cells #[.int .i64 (i : Int)] 3)).at hg7l (by simp) _).trans (hR7.cell j hj))
                have hold := holdTake (p := 0) hR (W := (w7.alloc (.cells #[.int .i64 (i : Int)] 3))) (hU7.alloc _)
                have HU7 := Lib.hid hU7
                clear hr7 hg7 hR7 hU7 hn0 hR hdl
                have hnw2 := newsP2 w7 (.int .i64 (i : Int))
                go_wp2_with (at_builtin; refine wpList_append_grows _ rfl _ _ 22 rfl 3 i0 _ 1 8 Try.underlying22 hi hz0 hz1 hz2 rfl (by omega) (some ⟨g, 0, none⟩) 0 0 (i64s (us.take 0)) rfl (fun e => by cases e) (by rw [Nat.mul_one]; exact hol) (fun b hb j u hj => by cases hb; exact hold j u hj) ⟨w7.heap.size, 0, none⟩ 1 1 [.int .i64 (i : Int)] rfl rfl hnw2 (by simp [Value.oneCell']) (by omega) (by unfold maxLen; omega) (by omega) ?_)
                intro v3 w3 hr3 hg3
                have hU3 := (HU7.out.alloc (.cells #[.int .i64 (i : Int)] 3)).grown hg3 (row := none) (by simp)
                have hown : ∀ b, v3.ownBlock = some b → wr.heap.size ≤ b := fun b hb => by have h1 := (World.ownsRow.lt hr3 b hb).1; have h2 := HU7.out.size; (try simp at h1); (try simp at h2); omega
                have hR3 := Row.of_owns hr3
                obtain ⟨va3, vc3, rfl⟩ := hR3.form
                have hn7 : ∀ j u, (i64s (us.drop 0))[j]? = some u → w3.cell? (Addr.add ⟨g7, 0, none⟩ j) = some u := fun j u hj => by have h7 := HN7.out j u hj; exact (World.cell?_of_block (hg3.block _ (by have := World.block_lt_of_cell? _ _ h7; simp at this ⊢; omega) (by simp))).trans h7
                have HU3 := Lib.hid hU3
                have HOWN := Lib.hid hown
                have HR3 := Lib.hid hR3
                clear hr3 hg3 hU3 hown hnw2
                go_wp2_with (at_builtin; refine wpList_app _ rfl _ _ 22 rfl 3 i0 _ 1 8 Try.underlying22 hi hz0 hz1 hz2 rfl (by omega) (.slice va3 (0 + 1) vc3) (0 + 1) _ rfl hR3 ⟨g7, 0, none⟩ (k - 0) c7 (i64s (us.drop 0)) rfl (by rw [Nat.mul_one]; exact HDL.out) hn7 (i64s_one _) (by unfold maxLen; omega) (by omega) ?_)
                intro v5 w5 hR5 hU5 hT5
                have HAP := Lib.hid (ruLast (us := us.take 0 ++ i :: us.drop 0) HU.out HOWN.out HU3.out hR5 hU5 hT5 (by simp [i64s]))
                clear hR3 hR5 hU5 hT5 hn7
                go_wp2
                go_roundg (17592186044416 - (i + 1))
                · exact ⟨i + 1, us.take 0 ++ i :: us.drop 0, by omega, rfl, by first | rfl | go_num, Lib.hid (HS.out.ins HP.out 0 (by rw [HK.out]; omega) (fun j hj => by rw [HGN.out]; exact HT.out j hj) (fun j hj => by rw [HGN.out]; exact HD.out j hj)), Lib.hid HAP.out.1, Lib.hid HAP.out.2⟩
                · omega
              · obtain rfl : k = 0 := by omega
                have hdr : us.drop 0 = [] := List.drop_of_length_le (by rw [HK.out]; exact Nat.le_refl _)
                have HDL : Hid ((i64s (us.drop 0)).length = 0) := Lib.hid (by rw [hdr]; rfl)
                have HN7 : Hid (∀ j u, (i64s (us.drop 0))[j]? = some u → ((wr.alloc (.cells #[] 3)).alloc (.cells #[.int .i64 (i : Int)] 3)).cell? (Addr.add ⟨wr.heap.size, 0, none⟩ j) = some u) := Lib.hid (fun j u hj => by rw [hdr] at hj; simp [i64s] at hj)
                have hold := holdTake (p := 0) hR (W := ((wr.alloc (.cells #[] 3)).alloc (.cells #[.int .i64 (i : Int)] 3))) (((Upd.refl [] wr).alloc (.cells #[] 3)).alloc (.cells #[.int .i64 (i : Int)] 3))
                have hkvz : ((0 : Nat) : Int) ≤ (vc : Int) := by omega
                clear hdr hR
                rcases Nat.lt_or_ge 0 vc with hkv2 | hkv2
                · have hvz : ¬ vc = 0 := by omega
                  have hnw2 := newsP wr #[] 3 (.int .i64 (i : Int)) 3 (by simp [Value.oneCell'])
                  go_wp2_with (at_builtin; refine wpList_append_grows _ rfl _ _ 22 rfl 3 i0 _ 1 8 Try.underlying22 hi hz0 hz1 hz2 rfl (by omega) (some ⟨g, 0, none⟩) 0 0 (i64s (us.take 0)) rfl (fun e => by cases e) (by rw [Nat.mul_one]; exact hol) (fun b hb j u hj => by cases hb; exact hold j u hj) ⟨wr.heap.size + 1, 0, none⟩ 1 1 [.int .i64 (i : Int)] rfl rfl hnw2 (by simp [Value.oneCell']) (by omega) (by unfold maxLen; omega) (by omega) ?_)
                  intro v3 w3 hr3 hg3
                  have hU3 := (((Upd.refl [] wr).alloc (.cells #[] 3)).alloc (.cells #[.int .i64 (i : Int)] 3)).grown hg3 (row := none) (by simp)
                  have hown : ∀ b, v3.ownBlock = some b → wr.heap.size ≤ b := fun b hb => by have h1 := (World.ownsRow.lt hr3 b hb).1; have h2 := ((Upd.refl [] wr).alloc (.cells #[] 3)).size; (try simp at h1); (try simp at h2); omega
                  have hR3 := Row.of_owns hr3
                  obtain ⟨va3, vc3, rfl⟩ := hR3.form
                  have hn7 : ∀ j u, (i64s (us.drop 0))[j]? = some u → w3.cell? (Addr.add ⟨wr.heap.size, 0, none⟩ j) = some u := fun j u hj => by have h7 := HN7.out j u hj; exact (World.cell?_of_block (hg3.block _ (by have := World.block_lt_of_cell? _ _ h7; simp at this ⊢; omega) (by simp))).trans h7
                  have HU3 := Lib.hid hU3
                  have HOWN := Lib.hid hown
                  have HR3 := Lib.hid hR3
                  clear hr3 hg3 hU3 hown hnw2
                  go_wp2_with (at_builtin; refine wpList_app _ rfl _ _ 22 rfl 3 i0 _ 1 8 Try.underlying22 hi hz0 hz1 hz2 rfl (by omega) (.slice va3 (0 + 1) vc3) (0 + 1) _ rfl hR3 ⟨wr.heap.size, 0, none⟩ 0 0 (i64s (us.drop 0)) rfl (by rw [Nat.mul_one]; exact HDL.out) hn7 (i64s_one _) (by unfold maxLen; omega) (by omega) ?_)
                  intro v5 w5 hR5 hU5 hT5
                  have HAP := Lib.hid (ruLast (us := us.take 0 ++ i :: us.drop 0) HU.out HOWN.out HU3.out hR5 hU5 hT5 (by simp [i64s]))
                  clear hR3 hR5 hU5 hT5 hn7
                  go_wp2
                  go_roundg (17592186044416 - (i + 1))
                  · exact ⟨i + 1, us.take 0 ++ i :: us.drop 0, by omega, rfl, by first | rfl | go_num, Lib.hid (HS.out.ins HP.out 0 (by rw [HK.out]; omega) (fun j hj => by rw [HGN.out]; exact HT.out j hj) (fun j hj => by rw [HGN.out]; exact HD.out j hj)), Lib.hid HAP.out.1, Lib.hid HAP.out.2⟩
                  · omega
                · obtain rfl : vc = 0 := by omega
                  have hnw2 := newsP wr #[] 3 (.int .i64 (i : Int)) 3 (by simp [Value.oneCell'])
                  go_wp2_with (at_builtin; refine wpList_append_grows _ rfl _ _ 22 rfl 3 i0 _ 1 8 Try.underlying22 hi hz0 hz1 hz2 rfl (by omega) (some ⟨g, 0, none⟩) 0 0 (i64s (us.take 0)) rfl (fun e => by cases e) (by rw [Nat.mul_one]; exact hol) (fun b hb j u hj => by cases hb; exact hold j u hj) ⟨wr.heap.size + 1, 0, none⟩ 1 1 [.int .i64 (i : Int)] rfl rfl hnw2 (by simp [Value.oneCell']) (by omega) (by unfold maxLen; omega) (by omega) ?_)
                  intro v3 w3 hr3 hg3
                  have hU3 := (((Upd.refl [] wr).alloc (.cells #[] 3)).alloc (.cells #[.int .i64 (i : Int)] 3)).grown hg3 (row := none) (by simp)
                  have hown : ∀ b, v3.ownBlock = some b → wr.heap.size ≤ b := fun b hb => by have h1 := (World.ownsRow.lt hr3 b hb).1; have h2 := ((Upd.refl [] wr).alloc (.cells #[] 3)).size; (try simp at h1); (try simp at h2); omega
                  have hR3 := Row.of_owns hr3
                  obtain ⟨va3, vc3, rfl⟩ := hR3.form
                  have hn7 : ∀ j u, (i64s (us.drop 0))[j]? = some u → w3.cell? (Addr.add ⟨wr.heap.size, 0, none⟩ j) = some u := fun j u hj => by have h7 := HN7.out j u hj; exact (World.cell?_of_block (hg3.block _ (by have := World.block_lt_of_cell? _ _ h7; simp at this ⊢; omega) (by simp))).trans h7
                  have HU3 := Lib.hid hU3
                  have HOWN := Lib.hid hown
                  have HR3 := Lib.hid hR3
                  clear hr3 hg3 hU3 hown hnw2
                  go_wp2_with (at_builtin; refine wpList_app _ rfl _ _ 22 rfl 3 i0 _ 1 8 Try.underlying22 hi hz0 hz1 hz2 rfl (by omega) (.slice va3 (0 + 1) vc3) (0 + 1) _ rfl hR3 ⟨wr.heap.size, 0, none⟩ 0 0 (i64s (us.drop 0)) rfl (by rw [Nat.mul_one]; exact HDL.out) hn7 (i64s_one _) (by unfold maxLen; omega) (by omega) ?_)
                  intro v5 w5 hR5 hU5 hT5
                  have HAP := Lib.hid (ruLast (us := us.take 0 ++ i :: us.drop 0) HU.out HOWN.out HU3.out hR5 hU5 hT5 (by simp [i64s]))
                  clear hR3 hR5 hU5 hT5 hn7
                  go_wp2
                  go_roundg (17592186044416 - (i + 1))
                  · exact ⟨i + 1, us.take 0 ++ i :: us.drop 0, by omega, rfl, by first | rfl | go_num, Lib.hid (HS.out.ins HP.out 0 (by rw [HK.out]; omega) (fun j hj => by rw [HGN.out]; exact HT.out j hj) (fun j hj => by rw [HGN.out]; exact HD.out j hj)), Lib.hid HAP.out.1, Lib.hid HAP.out.2⟩
                  · omega
          · obtain ⟨q, rfl⟩ : ∃ q, p = q + 1 := ⟨p - 1, by omega⟩
            have hqu : q < us.length := by rw [HK.out]; omega
            obtain ⟨g, c2, hv, hg, hle⟩ := HO.out.1.form' (by rw [length_i64s, HK.out]; omega)
            have hR := HO.out.1
            rw [length_i64s, HK.out] at hR hv hle
            cases hv
            have hcs := hR.cell q (u := .int .i64 (us[q] : Nat)) (by rw [i64s, List.getElem?_map, List.getElem?_eq_getElem hqu]; rfl)
            have hsi := ((HS.out.mem us[q]).1 (List.getElem_mem hqu)).1
            obtain ⟨b3, off3, he3, hc3, r3, r4⟩ := (HI.out.pure HU.out).cell us[q] (by rw [HLN.out]; omega)
            cases he3
            have HDR : Hid (us.drop q = us[q] :: us.drop (q + 1)) := Lib.hid (List.drop_eq_getElem_cons hqu)
            have HNT := Lib.hid (near_take HS.out.srt q hqu)
            obtain ⟨m3, hm3⟩ : ∃ m3, many.getD us[q] 0 = m3 := ⟨_, rfl⟩
            have hx3 : us[q] < many.length := by rw [HLN.out]; omega
            rw [show many[us[q]] = m3 by rw [← hm3]; simp [List.getD_eq_getElem?_getD, hx3]] at hc3 r3 r4
            have HG3 : Hid (nearN (many.getD us[q] 0) = nearN m3) := Lib.hid (by rw [hm3])
            clear hx3 hm3
            generalize us[q] = s at *
            have HNR3 := Lib.hid (fun w => rnear_any m3 w)
            generalize nearN m3 = N3 at *
            have hsz : (s : Int) < (n : Int) := by omega
            have hpz : (0 : Int) < ((q + 1 : Nat) : Int) := by omega
            have hw2 : IntKind.i64.wrap (((q + 1 : Nat) : Int) - 1) = ((q : Nat) : Int) := by rw [IntWalk.i64_in _ (by omega)]; omega
            have hqz : (q : Int) < (k : Int) := by omega
            clear hqu hg hR
            by_cases hgt : N < N3
            · have hgtz : (N : Int) < (N3 : Int) := by omega
              go_wp2_with fail
              refine (HNR3.out _).mono ?_
              rintro e w7 ⟨rfl, rfl⟩
              go_wp2_with fail
              refine (HNR.out _).mono ?_
              rintro e w7 ⟨rfl, rfl⟩
              go_wp2
              go_roundg (17592186044416 - (k - q))
              · exact ⟨q, by omega, by omega, by first | rfl | go_num, rfl, Lib.hid (fun j hj => by
                  rw [HDR.out] at hj
                  rcases List.mem_cons.1 hj with rfl | hj
                  · rw [HG3.out]; exact hgt
                  · exact HD.out j hj)⟩
              · omega
            · have hgtz : ¬ (N : Int) < (N3 : Int) := by omega
              have HT : Hid (∀ j, j ∈ us.take (q + 1) → nearN (many.getD j 0) ≤ N) := Lib.hid (HNT.out N (by rw [HG3.out]; omega))
              go_wp2_with fail
              refine (HNR3.out _).mono ?_
              rintro e w7 ⟨rfl, rfl⟩
              go_wp2_with fail
              refine (HNR.out _).mono ?_
              rintro e w7 ⟨rfl, rfl⟩
              have hR0 := HO.out.1
              rw [length_i64s, HK.out] at hR0
              rcases hR0.2 with ⟨e, _⟩ | ⟨g, c2, cur, e, _⟩
              · cases e
              · cases e
                have hR := HO.out.1
                rw [length_i64s, HK.out] at hR
                have hgl := hR.lt g rfl
                have hkv : k ≤ vc := by rcases hR.2 with ⟨e, _⟩ | ⟨g3, c3, cur3, e, _, _, h3, _⟩ <;> cases e; exact h3
                have hol : (i64s (us.take (q + 1))).length = (q + 1) := by rw [length_i64s, List.length_take, HK.out]; omega
                by_cases hpk2 : (q + 1) < k
                · have hdl : (i64s (us.drop (q + 1))).length = k - (q + 1) := by rw [length_i64s, List.length_drop, HK.out]
                  have hn0 : ∀ j u, (i64s (us.drop (q + 1)))[j]? = some u → (wr.alloc (.cells #[] 3)).cell? (Addr.add ⟨g, q + 1, none⟩ j) = some u := fun j u hj => by rw [i64s, List.map_drop, List.getElem?_drop] at hj; rw [add_flat]; exact (((Upd.refl [] wr).alloc (.cells #[] 3)).at hgl (by simp) _).trans (hR.cell _ hj)
                  have HR := Lib.hid hR
                  have hpkz : ((q + 1) : Int) ≤ (k : Int) := by omega
                  have hvz : ¬ vc = (q + 1) := by omega
                  have hkvz : (k : Int) ≤ (vc : Int) := by omega
                  go_wp2_with (at_builtin; refine wpList_append_grows _ rfl _ _ 22 rfl 3 i0 _ 1 8 Try.underlying22 hi hz0 hz1 hz2 rfl (by omega) (some ⟨wr.heap.size, 0, none⟩) 0 0 [] rfl (fun e => by cases e) rfl (fun b hb j u hj => by simp at hj) ⟨g, q + 1, none⟩ (k - (q + 1)) (vc - (q + 1)) (i64s (us.drop (q + 1))) rfl (by rw [Nat.mul_one]; exact hdl) hn0 (i64s_one _) (by omega) (by unfold maxLen; omega) (by omega) ?_)
                  intro v7 w7 hr7 hg7
                  have hR7 : Row w7 3 1 v7 (k - (q + 1)) (i64s (us.drop (q + 1))) := Row.of_owns hr7
                  obtain ⟨g7, c7, rfl, hg7l, _⟩ := hR7.form' (by omega)
                  have hU7 : Upd [] wr w7 := ((Upd.refl [] wr).alloc (.cells #[] 3)).grown hg7 (row := none) (by simp)
                  have HDL : Hid ((i64s (us.drop (q + 1))).length = k - (q + 1)) := Lib.hid hdl
                  have HN7 : Hid (∀ j u, (i64s (us.drop (q + 1)))[j]? = some u → (w7.alloc (.cells #[.int .i64 (i : Int)] 3)).cell? (Addr.add ⟨g7, 0, none⟩ j) = some u) := Lib.hid (fun j u hj => by rw [add_flat, Nat.zero_add]; exact (((Upd.refl [] w7).alloc (.cells #[.int .i64 (i : Int)] 3)).at hg7l (by simp) _).trans (hR7.cell j hj))
                  have hold := holdTake (p := (q + 1)) hR (W := (w7.alloc (.cells #[.int .i64 (i : Int)] 3))) (hU7.alloc _)
                  have HU7 := Lib.hid hU7
                  clear hr7 hg7 hR7 hU7 hn0 hR hdl
                  have hnw2 := newsP2 w7 (.int .i64 (i : Int))
                  go_wp2_with (at_builtin; refine wpList_append_grows _ rfl _ _ 22 rfl 3 i0 _ 1 8 Try.underlying22 hi hz0 hz1 hz2 rfl (by omega) (some ⟨g, 0, none⟩) (q + 1) (q + 1) (i64s (us.take (q + 1))) rfl (fun e => by cases e) (by rw [Nat.mul_one]; exact hol) (fun b hb j u hj => by cases hb; exact hold j u hj) ⟨w7.heap.size, 0, none⟩ 1 1 [.int .i64 (i : Int)] rfl rfl hnw2 (by simp [Value.oneCell']) (by omega) (by unfold maxLen; omega) (by omega) ?_)
                  intro v3 w3 hr3 hg3
                  have hU3 := (HU7.out.alloc (.cells #[.int .i64 (i : Int)] 3)).grown hg3 (row := none) (by simp)
                  have hown : ∀ b, v3.ownBlock = some b → wr.heap.size ≤ b := fun b hb => by have h1 := (World.ownsRow.lt hr3 b hb).1; have h2 := HU7.out.size; (try simp at h1); (try simp at h2); omega
                  have hR3 := Row.of_owns hr3
                  obtain ⟨va3, vc3, rfl⟩ := hR3.form
                  have hn7 : ∀ j u, (i64s (us.drop (q + 1)))[j]? = some u → w3.cell? (Addr.add ⟨g7, 0, none⟩ j) = some u := fun j u hj => by have h7 := HN7.out j u hj; exact (World.cell?_of_block (hg3.block _ (by have := World.block_lt_of_cell? _ _ h7; simp at this ⊢; omega) (by simp))).trans h7
                  have HU3 := Lib.hid hU3
                  have HOWN := Lib.hid hown
                  have HR3 := Lib.hid hR3
                  clear hr3 hg3 hU3 hown hnw2
                  go_wp2_with (at_builtin; refine wpList_app _ rfl _ _ 22 rfl 3 i0 _ 1 8 Try.underlying22 hi hz0 hz1 hz2 rfl (by omega) (.slice va3 ((q + 1) + 1) vc3) ((q + 1) + 1) _ rfl hR3 ⟨g7, 0, none⟩ (k - (q + 1)) c7 (i64s (us.drop (q + 1))) rfl (by rw [Nat.mul_one]; exact HDL.out) hn7 (i64s_one _) (by unfold maxLen; omega) (by omega) ?_)
                  intro v5 w5 hR5 hU5 hT5
                  have HAP := Lib.hid (ruLast (us := us.take (q + 1) ++ i :: us.drop (q + 1)) HU.out HOWN.out HU3.out hR5 hU5 hT5 (by simp [i64s]))
                  clear hR3 hR5 hU5 hT5 hn7
                  go_wp2
                  go_roundg (17592186044416 - (i + 1))
                  · exact ⟨i + 1, us.take (q + 1) ++ i :: us.drop (q + 1), by omega, rfl, by first | rfl | go_num, Lib.hid (HS.out.ins HP.out (q + 1) (by rw [HK.out]; omega) (fun j hj => by rw [HGN.out]; exact HT.out j hj) (fun j hj => by rw [HGN.out]; exact HD.out j hj)), Lib.hid HAP.out.1, Lib.hid HAP.out.2⟩
                  · omega
                · obtain rfl : k = (q + 1) := by omega
                  have hdr : us.drop (q + 1) = [] := List.drop_of_length_le (by rw [HK.out]; exact Nat.le_refl _)
                  have HDL : Hid ((i64s (us.drop (q + 1))).length = 0) := Lib.hid (by rw [hdr]; rfl)
                  have HN7 : Hid (∀ j u, (i64s (us.drop (q + 1)))[j]? = some u → ((wr.alloc (.cells #[] 3)).alloc (.cells #[.int .i64 (i : Int)] 3)).cell? (Addr.add ⟨wr.heap.size, 0, none⟩ j) = some u) := Lib.hid (fun j u hj => by rw [hdr] at hj; simp [i64s] at hj)
                  have hold := holdTake (p := (q + 1)) hR (W := ((wr.alloc (.cells #[] 3)).alloc (.cells #[.int .i64 (i : Int)] 3))) (((Upd.refl [] wr).alloc (.cells #[] 3)).alloc (.cells #[.int .i64 (i : Int)] 3))
                  have hkvz : (((q + 1) : Nat) : Int) ≤ (vc : Int) := by omega
                  clear hdr hR
                  rcases Nat.lt_or_ge (q + 1) vc with hkv2 | hkv2
                  · have hvz : ¬ vc = (q + 1) := by omega
                    have hnw2 := newsP wr #[] 3 (.int .i64 (i : Int)) 3 (by simp [Value.oneCell'])
                    go_wp2_with (at_builtin; refine wpList_append_grows _ rfl _ _ 22 rfl 3 i0 _ 1 8 Try.underlying22 hi hz0 hz1 hz2 rfl (by omega) (some ⟨g, 0, none⟩) (q + 1) (q + 1) (i64s (us.take (q + 1))) rfl (fun e => by cases e) (by rw [Nat.mul_one]; exact hol) (fun b hb j u hj => by cases hb; exact hold j u hj) ⟨wr.heap.size + 1, 0, none⟩ 1 1 [.int .i64 (i : Int)] rfl rfl hnw2 (by simp [Value.oneCell']) (by omega) (by unfold maxLen; omega) (by omega) ?_)
                    intro v3 w3 hr3 hg3
                    have hU3 := (((Upd.refl [] wr).alloc (.cells #[] 3)).alloc (.cells #[.int .i64 (i : Int)] 3)).grown hg3 (row := none) (by simp)
                    have hown : ∀ b, v3.ownBlock = some b → wr.heap.size ≤ b := fun b hb => by have h1 := (World.ownsRow.lt hr3 b hb).1; have h2 := ((Upd.refl [] wr).alloc (.cells #[] 3)).size; (try simp at h1); (try simp at h2); omega
                    have hR3 := Row.of_owns hr3
                    obtain ⟨va3, vc3, rfl⟩ := hR3.form
                    have hn7 : ∀ j u, (i64s (us.drop (q + 1)))[j]? = some u → w3.cell? (Addr.add ⟨wr.heap.size, 0, none⟩ j) = some u := fun j u hj => by have h7 := HN7.out j u hj; exact (World.cell?_of_block (hg3.block _ (by have := World.block_lt_of_cell? _ _ h7; simp at this ⊢; omega) (by simp))).trans h7
                    have HU3 := Lib.hid hU3
                    have HOWN := Lib.hid hown
                    have HR3 := Lib.hid hR3
                    clear hr3 hg3 hU3 hown hnw2
                    go_wp2_with (at_builtin; refine wpList_app _ rfl _ _ 22 rfl 3 i0 _ 1 8 Try.underlying22 hi hz0 hz1 hz2 rfl (by omega) (.slice va3 ((q + 1) + 1) vc3) ((q + 1) + 1) _ rfl hR3 ⟨wr.heap.size, 0, none⟩ 0 0 (i64s (us.drop (q + 1))) rfl (by rw [Nat.mul_one]; exact HDL.out) hn7 (i64s_one _) (by unfold maxLen; omega) (by omega) ?_)
                    intro v5 w5 hR5 hU5 hT5
                    have HAP := Lib.hid (ruLast (us := us.take (q + 1) ++ i :: us.drop (q + 1)) HU.out HOWN.out HU3.out hR5 hU5 hT5 (by simp [i64s]))
                    clear hR3 hR5 hU5 hT5 hn7
                    go_wp2
                    go_roundg (17592186044416 - (i + 1))
                    · exact ⟨i + 1, us.take (q + 1) ++ i :: us.drop (q + 1), by omega, rfl, by first | rfl | go_num, Lib.hid (HS.out.ins HP.out (q + 1) (by rw [HK.out]; omega) (fun j hj => by rw [HGN.out]; exact HT.out j hj) (fun j hj => by rw [HGN.out]; exact HD.out j hj)), Lib.hid HAP.out.1, Lib.hid HAP.out.2⟩
                    · omega
                  · obtain rfl : vc = (q + 1) := by omega
                    have hnw2 := newsP wr #[] 3 (.int .i64 (i : Int)) 3 (by simp [Value.oneCell'])
                    go_wp2_with (at_builtin; refine wpList_append_grows _ rfl _ _ 22 rfl 3 i0 _ 1 8 Try.underlying22 hi hz0 hz1 hz2 rfl (by omega) (some ⟨g, 0, none⟩) (q + 1) (q + 1) (i64s (us.take (q + 1))) rfl (fun e => by cases e) (by rw [Nat.mul_one]; exact hol) (fun b hb j u hj => by cases hb; exact hold j u hj) ⟨wr.heap.size + 1, 0, none⟩ 1 1 [.int .i64 (i : Int)] rfl rfl hnw2 (by simp [Value.oneCell']) (by omega) (by unfold maxLen; omega) (by omega) ?_)
                    intro v3 w3 hr3 hg3
                    have hU3 := (((Upd.refl [] wr).alloc (.cells #[] 3)).alloc (.cells #[.int .i64 (i : Int)] 3)).grown hg3 (row := none) (by simp)
                    have hown : ∀ b, v3.ownBlock = some b → wr.heap.size ≤ b := fun b hb => by have h1 := (World.ownsRow.lt hr3 b hb).1; have h2 := ((Upd.refl [] wr).alloc (.cells #[] 3)).size; (try simp at h1); (try simp at h2); omega
                    have hR3 := Row.of_owns hr3
                    obtain ⟨va3, vc3, rfl⟩ := hR3.form
                    have hn7 : ∀ j u, (i64s (us.drop (q + 1)))[j]? = some u → w3.cell? (Addr.add ⟨wr.heap.size, 0, none⟩ j) = some u := fun j u hj => by have h7 := HN7.out j u hj; exact (World.cell?_of_block (hg3.block _ (by have := World.block_lt_of_cell? _ _ h7; simp at this ⊢; omega) (by simp))).trans h7
                    have HU3 := Lib.hid hU3
                    have HOWN := Lib.hid hown
                    have HR3 := Lib.hid hR3
                    clear hr3 hg3 hU3 hown hnw2
                    go_wp2_with (at_builtin; refine wpList_app _ rfl _ _ 22 rfl 3 i0 _ 1 8 Try.underlying22 hi hz0 hz1 hz2 rfl (by omega) (.slice va3 ((q + 1) + 1) vc3) ((q + 1) + 1) _ rfl hR3 ⟨wr.heap.size, 0, none⟩ 0 0 (i64s (us.drop (q + 1))) rfl (by rw [Nat.mul_one]; exact HDL.out) hn7 (i64s_one _) (by unfold maxLen; omega) (by omega) ?_)
                    intro v5 w5 hR5 hU5 hT5
                    have HAP := Lib.hid (ruLast (us := us.take (q + 1) ++ i :: us.drop (q + 1)) HU.out HOWN.out HU3.out hR5 hU5 hT5 (by simp [i64s]))
                    clear hR3 hR5 hU5 hT5 hn7
                    go_wp2
                    go_roundg (17592186044416 - (i + 1))
                    · exact ⟨i + 1, us.take (q + 1) ++ i :: us.drop (q + 1), by omega, rfl, by first | rfl | go_num, Lib.hid (HS.out.ins HP.out (q + 1) (by rw [HK.out]; omega) (fun j hj => by rw [HGN.out]; exact HT.out j hj) (fun j hj => by rw [HGN.out]; exact HD.out j hj)), Lib.hid HAP.out.1, Lib.hid HAP.out.2⟩
                    · omega
    · have hcz : ¬ (i : Int) < (n : Int) := by omega
      obtain rfl : i = n := by omega
      go_wp2
      go_ret
      exact ⟨_, us, rfl, by rw [HLN.out]; exact HS.out, by rw [OwnX, length_i64s, HK.out]; have := HO.out; rw [OwnX, length_i64s, HK.out] at this; exact this, HU.out⟩
end Go.Proofs.Ytdehkaknbmbieaa

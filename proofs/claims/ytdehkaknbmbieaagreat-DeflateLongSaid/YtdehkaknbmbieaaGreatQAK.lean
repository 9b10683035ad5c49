/- What slices.SortFunc leaves, in this seat's words. -/
import Derived.Shelf.SlSortCmp.NoneTotal
import Derived.Test.YtdehkaknbmbieaaGreatQAA
import Derived.Test.YtdehkaknbmbieaaGreatProg
import Derived.Test.YtdehkaknbmbieaaGreatQAD
import Derived.Test.YtdehkaknbmbieaaGreatQAJ
import Derived.Test.YtdehkaknbmbieaaGreatPkd
namespace Go.Proofs.YtdehkaknbmbieaaGreat
set_option linter.unusedVariables false
set_option linter.unusedSimpArgs false
set_option linter.unusedSectionVars false
open Go.RowKit
set_option linter.unusedVariables false

theorem sortW_upd {α : Type} [Inhabited α] (enc : α → Value) (w : World) (blk off m : Nat) (d : Array α) (os : Array Obj) : Upd [blk] w (sortWorld enc w blk off m d os) := by
  unfold sortWorld
  refine ⟨rfl, rfl, rfl, by simp, fun k hk hn => ?_⟩
  have hb : blk ≠ k := fun e => hn (by simp [e])
  rw [Sort.heap_grow_old _ _ (by simpa using hk)]
  simp [Sort.putRow, Sort.mapBlock, Array.getElem?_modify, hb]
theorem sortW_row {α : Type} [Inhabited α] (enc : α → Value) (w : World) (blk m k cap : Nat) (e : TypeId) (d : List α) (xs : List Value) (os : Array Obj) (hd : d.length = k) (hR : Row w e 1 (.slice (some ⟨blk, 0, none⟩) k cap) k xs) :
    Row (sortWorld enc w blk 0 m d.toArray os) e 1 (.slice (some ⟨blk, 0, none⟩) k cap) k (d.map enc) := by
  obtain ⟨h1, h2⟩ := hR
  rcases h2 with ⟨e1, _⟩ | ⟨g, c, cur, e1, hb, hh, hc, hm, hs, ht⟩
  · cases e1
  · injection e1 with e1 e2 e3
    injection e1 with e1
    injection e1 with e1 e4
    subst e1 e3
    have hlt : blk < w.heap.size := (Array.getElem?_eq_some_iff.1 hh).1
    refine ⟨by simp [hd], .inr ⟨blk, cap, Sort.putCells enc 0 d.toArray cur, rfl, Nat.zero_le _, ?_, hc, hm, by simp [Sort.putCells, hs], ?_⟩⟩
    · unfold sortWorld
      rw [Sort.heap_grow_old _ _ (by simpa using hlt)]
      simp [Sort.putRow, Sort.mapBlock, Array.getElem?_modify, Sort.ahead, hh, Sort.onCells]
    · apply List.ext_getElem?
      intro i
      rw [List.getElem?_take]
      by_cases hi : i < k
      · rw [if_pos (by omega)]
        have hic : i < cur.size := by omega
        simp [Sort.putCells, hi, hd, hic, List.getElem?_eq_getElem (show i < d.length by omega)]
      · rw [if_neg (by omega), List.getElem?_eq_none (by simp; omega)]
end Go.Proofs.YtdehkaknbmbieaaGreat
namespace Go.Proofs
open Go.Shelf
def YtdehkaknbmbieaaGreat.sortL_ren : Go.Shelf.Ren := ⟨fun | 6 => 91 | 15 => 130 | 14 => 129 | 28 => 148 | 29 => 149 | 20 => 140 | 21 => 141 | 22 => 142 | 23 => 143 | 24 => 144 | 25 => 145 | 26 => 146 | 27 => 147 | 46 => 152 | 47 => 153 | 48 => 154 | 49 => 155 | 50 => 156 | 57 => 157 | n => n, fun | 22 => 55 | 24 => 3 | 25 => 135 | 3 => 3 | 39 => 23 | 0 => 0 | 53 => 53 | 55 => 29 | 4 => 4 | 46 => 184 | 45 => 183 | 50 => 108 | 5 => 5 | 9 => 9 | 66 => 193 | 70 => 197 | 76 => 199 | 77 => 50 | n => n, fun | n => n⟩
theorem YtdehkaknbmbieaaGreat.sortL : Go.Proofs.SlLaysF.n6 Tryz.prog YtdehkaknbmbieaaGreat.sortL_ren := {
  mixed := by kernel_rfl
  f6 := ⟨Tryz.f91.name, by decide, Tryz.func91.trans (congrArg some (by kernel_rfl))⟩
  f14 := ⟨Tryz.f129.name, by decide, Tryz.func129.trans (congrArg some (by kernel_rfl))⟩
  f15 := Tryz.func130.trans (congrArg some (by kernel_rfl))
  f20 := ⟨Tryz.f140.name, by decide, Tryz.func140.trans (congrArg some (by kernel_rfl))⟩
  f21 := ⟨Tryz.f141.name, by decide, Tryz.func141.trans (congrArg some (by kernel_rfl))⟩
  f22 := ⟨Tryz.f142.name, by decide, Tryz.func142.trans (congrArg some (by kernel_rfl))⟩
  f23 := ⟨Tryz.f143.name, by decide, Tryz.func143.trans (congrArg some (by kernel_rfl))⟩
  f24 := ⟨Tryz.f144.name, by decide, Tryz.func144.trans (congrArg some (by kernel_rfl))⟩
  f25 := ⟨Tryz.f145.name, by decide, Tryz.func145.trans (congrArg some (by kernel_rfl))⟩
  f26 := ⟨Tryz.f146.name, by decide, Tryz.func146.trans (congrArg some (by kernel_rfl))⟩
  f27 := ⟨Tryz.f147.name, by decide, Tryz.func147.trans (congrArg some (by kernel_rfl))⟩
  f28 := Tryz.func148.trans (congrArg some (by kernel_rfl))
  f29 := Tryz.func149.trans (congrArg some (by kernel_rfl))
  f46 := ⟨Tryz.f152.name, by decide, Tryz.func152.trans (congrArg some (by kernel_rfl))⟩
  f47 := Tryz.func153.trans (congrArg some (by kernel_rfl))
  f48 := Tryz.func154.trans (congrArg some (by kernel_rfl))
  f49 := ⟨Tryz.f155.name, by decide, Tryz.func155.trans (congrArg some (by kernel_rfl))⟩
  f50 := ⟨Tryz.f156.name, by decide, Tryz.func156.trans (congrArg some (by kernel_rfl))⟩
  f57 := ⟨Tryz.f157.name, by decide, Tryz.func157.trans (congrArg some (by kernel_rfl))⟩
  t0 := Tryz.underlying0
  a0 := Tryz.isAgg0
  z0 := Tryz.sizeOf0
  v0 := Tryz.zeroValue0
  t3 := Tryz.underlying3
  a3 := Tryz.isAgg3
  z3 := Tryz.sizeOf3
  v3 := Tryz.zeroValue3
  t4 := Tryz.underlying4
  a4 := Tryz.isAgg4
  z4 := Tryz.sizeOf4
  v4 := Tryz.zeroValue4
  t5 := Tryz.underlying5
  a5 := Tryz.isAgg5
  z5 := Tryz.sizeOf5
  v5 := Tryz.zeroValue5
  t9 := Tryz.underlying9
  a9 := Tryz.isAgg9
  z9 := Tryz.sizeOf9
  v9 := Tryz.zeroValue9
  t22 := Tryz.underlying55
  a22 := Tryz.isAgg55
  z22 := Tryz.sizeOf55
  v22 := Tryz.zeroValue55
  a24 := Tryz.isAgg3
  z24 := Tryz.sizeOf3
  t25 := Tryz.underlying135
  a25 := Tryz.isAgg135
  z25 := Tryz.sizeOf135
  v25 := Tryz.zeroValue135
  t39 := Tryz.underlying23
  a39 := Tryz.isAgg23
  z39 := Tryz.sizeOf23
  v39 := Tryz.zeroValue23
  t45 := Tryz.underlying183
  a45 := Tryz.isAgg183
  z45 := Tryz.sizeOf183
  v45 := Tryz.zeroValue183
  t46 := Tryz.underlying184
  a46 := Tryz.isAgg184
  z46 := Tryz.sizeOf184
  v46 := Tryz.zeroValue184
  t50 := Tryz.underlying108
  a50 := Tryz.isAgg108
  z50 := Tryz.sizeOf108
  v50 := Tryz.zeroValue108
  t53 := Tryz.underlying53
  a53 := Tryz.isAgg53
  z53 := Tryz.sizeOf53
  v53 := Tryz.zeroValue53
  t55 := Tryz.underlying29
  a55 := Tryz.isAgg29
  z55 := Tryz.sizeOf29
  v55 := Tryz.zeroValue29
  t66 := Tryz.underlying193
  a66 := Tryz.isAgg193
  z66 := Tryz.sizeOf193
  v66 := Tryz.zeroValue193
  t70 := Tryz.underlying197
  a70 := Tryz.isAgg197
  z70 := Tryz.sizeOf197
  v70 := Tryz.zeroValue197
  t76 := Tryz.underlying199
  a76 := Tryz.isAgg199
  z76 := Tryz.sizeOf199
  v76 := Tryz.zeroValue199
  t77 := Tryz.underlying50
  a77 := Tryz.isAgg50
  z77 := Tryz.sizeOf50
  v77 := Tryz.zeroValue50 }
end Go.Proofs
namespace Go.Proofs.YtdehkaknbmbieaaGreat
set_option linter.unusedVariables false
set_option linter.unusedSimpArgs false
set_option linter.unusedSectionVars false
open Go.RowKit

/-- A row of the call's own: it lies behind w0. -/
def OwnX (w0 w : World) (e : TypeId) (v : Value) (xs : List Value) : Prop := Row w e 1 v xs.length xs ∧ ∀ k, v.ownBlock = some k → w0.heap.size ≤ k
theorem OwnX.nil (w0 w : World) (e : TypeId) : OwnX w0 w e (.slice none 0 0) [] := ⟨Row.nil _ _ _, fun k h => by cases h⟩
theorem OwnX.upd {w0 w w' : World} {e : TypeId} {v : Value} {xs : List Value} (h : OwnX w0 w e v xs) (hu : Upd [] w w') : OwnX w0 w' e v xs := ⟨h.1.upd hu (by simp), h.2⟩
theorem OwnX.app {w0 w wm w' : World} {e : TypeId} {v v' : Value} {xs ys : List Value} (h : OwnX w0 w e v xs) (hu : Upd [] w0 w) (hm : Upd [] w wm) (hR : Row w' e 1 v' (xs.length + ys.length) (xs ++ ys)) (hU : Upd v.ownBlock.toList wm w') (hT : Later wm v v') :
    OwnX w0 w' e v' (xs ++ ys) ∧ Upd [] w0 w' := by
  refine ⟨⟨by rw [List.length_append]; exact hR, fun k hk => ?_⟩, (hu.then hm).trans hU (fun k hk => .inr (h.2 k (by simpa using hk)))⟩
  rcases hT with h1 | ⟨g, h1, h2⟩
  · exact h.2 k (by rw [← h1]; exact hk)
  · rw [h1] at hk; simp at hk h2; have := (hu.then hm).size; omega
theorem OwnX.form {w0 w : World} {e : TypeId} {v : Value} {xs : List Value} (h : OwnX w0 w e v xs) : ∃ a c, v = .slice a xs.length c := h.1.form
theorem OwnX.base {w0 w1 w : World} {e : TypeId} {v : Value} {xs : List Value} (h : OwnX w1 w e v xs) (hs : w0.heap.size ≤ w1.heap.size) : OwnX w0 w e v xs := ⟨h.1, fun k hk => Nat.le_trans hs (h.2 k hk)⟩
end Go.Proofs.YtdehkaknbmbieaaGreat
namespace Go.Proofs.YtdehkaknbmbieaaGreat
set_option linter.unusedVariables false
set_option linter.unusedSimpArgs false
set_option linter.unusedSectionVars false
open Go.RowKit
set_option linter.unusedVariables false
set_option linter.unusedSimpArgs false

/-- The symbols below n that are used, as they stand. -/
def rawU (many : List Int) (n : Nat) : List Nat := (List.range n).filter fun i => decide (0 < many.getD i 0)
theorem rawU_succ (many : List Int) (n : Nat) : rawU many (n + 1) = rawU many n ++ if 0 < many.getD n 0 then [n] else [] := by
  unfold rawU
  rw [List.range_succ, List.filter_append]
  by_cases h : 0 < many.getD n 0
  · rw [if_pos h, List.filter_cons_of_pos (by simpa using h)]; rfl
  · rw [if_neg h, List.filter_cons_of_neg (by simpa using h)]; rfl
theorem rawU_mem (many : List Int) (n i : Nat) : i ∈ rawU many n ↔ i < n ∧ 0 < many.getD i 0 := by
  unfold rawU
  rw [List.mem_filter, List.mem_range]
  simp
theorem rawU_len (many : List Int) (n : Nat) : (rawU many n).length ≤ n := by
  have := List.length_filter_le (fun i => decide (0 < many.getD i 0)) (List.range n)
  rw [List.length_range] at this
  exact this
theorem cfN_neg (many : List Int) (x y : Nat) : cfN many x y < 0 ↔ Ahead many x y := by
  unfold cfN orN Ahead
  rcases cmpN_cases (nearN (many.getD x 0)) (nearN (many.getD y 0)) with ⟨h, e⟩ | ⟨h, e⟩ | ⟨h, e⟩
  · rw [e]
    rw [if_neg (by omega)]
    constructor
    · intro _; exact .inl h
    · intro _; omega
  · rw [e]
    rw [if_neg (by omega)]
    constructor
    · intro k; omega
    · intro k; omega
  · rw [e, if_pos rfl]
    rcases cmpN_cases x y with ⟨h2, e2⟩ | ⟨h2, e2⟩ | ⟨h2, e2⟩ <;> rw [e2] <;> constructor <;> intro k <;> omega
def cfF (many : List Int) (m : Nat) (x y : Fin (m + 1)) : Int := cfN many x.1 y.1
theorem ltF (many : List Int) (m : Nat) (x y : Fin (m + 1)) : ltOf (cfF many m) x y = true ↔ Ahead many x.1 y.1 := by
  unfold ltOf cfF
  rw [decide_eq_true_eq]
  exact cfN_neg many x.1 y.1
theorem ltF_false (many : List Int) (m : Nat) (x y : Fin (m + 1)) : ltOf (cfF many m) x y = false ↔ ¬ Ahead many x.1 y.1 := by
  rw [← ltF]
  cases ltOf (cfF many m) x y <;> simp
theorem ahead_tri {many : List Int} {a b : Nat} (h1 : ¬ Ahead many a b) (h2 : a ≠ b) : Ahead many b a := by
  unfold Ahead at *
  omega
theorem swoF (many : List Int) (m : Nat) : Sort.SWO (ltOf (cfF many m)) where
  irrefl x := by rw [ltF_false]; exact Ahead.irrefl
  trans x y z h1 h2 := by rw [ltF] at *; exact h1.trans h2
  ntrans x y z h1 h2 := by
    rw [ltF_false] at *
    unfold Ahead at *
    omega
theorem totF (many : List Int) (m : Nat) (x y : Fin (m + 1)) (h1 : ltOf (cfF many m) x y = false) (h2 : ltOf (cfF many m) y x = false) : x = y := by
  rw [ltF_false] at *
  apply Fin.ext
  unfold Ahead at *
  omega
/-- What the sort leaves is the order that is asked for. -/
theorem sorted_used (many : List Int) (m : Nat) (hm : many.length = m + 1) (d : List (Fin (m + 1))) (hd : d.map Fin.val = rawU many (m + 1)) : IsUsed many many.length ((d.mergeSort fun x y => !(ltOf (cfF many m)) y x).map Fin.val) := by
  have hp := List.mergeSort_perm d (fun x y => !(ltOf (cfF many m)) y x)
  constructor
  · intro i
    rw [((hp.map Fin.val).mem_iff), hd, rawU_mem, hm]
  · have hs := List.pairwise_mergeSort (le := fun x y => !(ltOf (cfF many m)) y x) (fun a b c h1 h2 => by
      simp only [Bool.not_eq_true'] at *
      rw [ltF_false] at *
      unfold Ahead at *
      omega) (fun a b => by
      simp only [Bool.or_eq_true, Bool.not_eq_true']
      rw [ltF_false, ltF_false]
      unfold Ahead
      omega) d
    have hn : (d.mergeSort fun x y => !(ltOf (cfF many m)) y x).Nodup := by
      rw [hp.nodup_iff]
      have : (d.map Fin.val).Nodup := by rw [hd]; exact List.nodup_range.filter _
      exact List.Pairwise.of_map Fin.val (fun a b h e => h (by rw [e])) this
    rw [List.pairwise_map]
    refine (hs.and hn).imp ?_
    intro a b ⟨h1, h2⟩
    simp only [Bool.not_eq_true'] at h1
    rw [ltF_false] at h1
    exact ahead_tri h1 (fun e => h2 (Fin.ext e.symm))
theorem sortU (many : List Int) (a : Option Addr) (n cap bx : Nat) (w0 w : World) (v : Value) (hB : Blk w bx [.slice a n cap] 55) (hI : IntsIn w0 a n many) (hn : n ≤ 1000000) (hu : Upd [] w0 w) (hO : OwnX w0 w 3 v (i64s (rawU many n))) :
    Calls Tryz.prog 91 #[v, .func (.func 92) #[] #[.pointer (some ⟨bx, 0, none⟩)]] w fun e w' => e = .returned (.tuple #[]) ∧ ∃ u, IsUsed many many.length u ∧ OwnX w0 w' 3 v (i64s u) ∧ Upd [] w0 w' := by
  by_cases hd : rawU many n = []
  · rw [hd] at hO
    obtain ⟨a', c', rfl⟩ := hO.form
    have h := AnyF.slices_SortFunc_none (P := Tryz.prog) (ρ := YtdehkaknbmbieaaGreat.sortL_ren) { YtdehkaknbmbieaaGreat.sortL with } a' c' (.func (.func 92) #[] #[.pointer (some ⟨bx, 0, none⟩)]) w
    change Calls Tryz.prog 91 _ _ _ at h
    refine h.mono ?_
    rintro e w' ⟨rfl, rfl⟩
    refine ⟨rfl, [], ⟨fun i => ?_, List.Pairwise.nil⟩, hO, hu⟩
    have := rawU_mem many n i
    rw [hd, ← hI.len] at this
    exact this
  · obtain ⟨m, hm⟩ : ∃ m, n = m + 1 := by
      cases n with
      | zero => exact absurd rfl hd
      | succ m => exact ⟨m, rfl⟩
    subst hm
    have hlen : many.length = m + 1 := hI.len
    have hdl : ∃ d : List (Fin (m + 1)), d.map Fin.val = rawU many (m + 1) := ⟨(rawU many (m + 1)).attach.map fun x => ⟨x.1, ((rawU_mem _ _ _).1 x.2).1⟩, by simp⟩
    obtain ⟨d, hdm⟩ := hdl
    have henc : i64s (rawU many (m + 1)) = d.map fun x : Fin (m + 1) => Value.int .i64 (x.1 : Int) := by rw [← hdm]; simp [i64s]
    have hk : d.length = (i64s (rawU many (m + 1))).length := by rw [henc]; simp
    have hpos : 0 < (i64s (rawU many (m + 1))).length := by
      rw [length_i64s]
      cases h : rawU many (m + 1) with
      | nil => exact absurd h hd
      | cons => simp
    obtain ⟨blk, c', rfl, hbl, _⟩ := hO.1.form' hpos
    have hblk : w0.heap.size ≤ blk := hO.2 blk rfl
    have hR := hO.1
    obtain ⟨K, hK⟩ : ∃ K, (i64s (rawU many (m + 1))).length = K := ⟨_, rfl⟩
    rw [hK] at hR hk hpos ⊢
    rw [henc] at hR
    have hne : bx ≠ blk := fun e => hR.neB hB (by decide) (by rw [e]; rfl)
    have ha : ∀ b off, a = some ⟨b, off, none⟩ → b ∉ [blk] := by
      intro b off e
      obtain ⟨b', off', e', hc, _⟩ := hI.cell 0 (by omega)
      rw [e] at e'
      injection e' with e'
      injection e' with e1
      have := World.block_lt_of_cell? w0 _ hc
      simp at this ⊢
      omega
    have h := Any.slices_SortFunc_total (P := Tryz.prog) (ρ := YtdehkaknbmbieaaGreat.sortL_ren) YtdehkaknbmbieaaGreat.sortL (fun x : Fin (m + 1) => Value.int .i64 (x.1 : Int)) (fun x => by simp [Value.oneCell']) (cfF many m) (swoF many m) 92 #[.pointer (some ⟨bx, 0, none⟩)] blk 0 c' d.toArray w (enters_of Tryz.func92 (by kernel_rfl) rfl)
      (fun k os dk hs x y => by
        refine (usedCmp_any many a (m + 1) cap bx x.1 y.1 _ ((hB.upd (sortW_upd _ w blk 0 k dk os) (by simpa using hne)).cell 0 rfl) ((hI.pure hu).upd (sortW_upd _ w blk 0 k dk os) ha) x.2 y.2 hn).mono ?_
        rintro e w' ⟨rfl, q, os', rfl⟩
        exact ⟨rfl, q, os', rfl⟩)
      (fun j hj => by
        have hj2 : j < d.length := by simpa using hj
        refine ⟨?_, by rw [Nat.zero_add]; exact hR.frz j⟩
        rw [Nat.zero_add, hR.cell j (u := .int .i64 (d[j].1 : Int)) (by simp [hj2])]
        rw [getElem!_pos _ j hj]
        simp)
      hbl (by have h1 := rawU_len many (m + 1); rw [length_i64s] at hK; simp; omega) (totF many m)
    change Calls Tryz.prog 91 _ _ _ at h
    rw [List.size_toArray, hk] at h
    refine h.mono ?_
    rintro e w' ⟨rfl, q, os, rfl⟩
    refine ⟨rfl, (d.mergeSort fun x y => !(ltOf (cfF many m)) y x).map Fin.val, sorted_used many m hlen d hdm, ⟨?_, hO.2⟩, hu.trans (sortW_upd _ w blk 0 q _ os) (fun k hk => .inr (by simp at hk; omega))⟩
    have hl2 : (d.mergeSort fun x y => !(ltOf (cfF many m)) y x).length = K := by rw [List.length_mergeSort, hk]
    have hs := sortW_row (fun x : Fin (m + 1) => Value.int .i64 (x.1 : Int)) w blk q _ c' 3 (d.mergeSort fun x y => !(ltOf (cfF many m)) y x) _ os hl2 hR
    have e2 : i64s ((d.mergeSort fun x y => !(ltOf (cfF many m)) y x).map Fin.val) = (d.mergeSort fun x y => !(ltOf (cfF many m)) y x).map (fun x : Fin (m + 1) => Value.int .i64 (x.1 : Int)) := by simp [i64s]
    have e3 : (i64s ((d.mergeSort fun x y => !(ltOf (cfF many m)) y x).map Fin.val)).length = K := by rw [e2, List.length_map, hl2]
    rw [e2] at e3 ⊢
    rw [e3]
    exact hs
/-- A new word of a row: what is read of it. -/
theorem news1 (w : World) (v : Value) (e : TypeId) : ∀ j u, [v][j]? = some u → (w.alloc (.cells #[v] e)).cell? ((⟨w.heap.size, 0, none⟩ : Addr).add j) = some u := World.news_of_block (cs := #[v]) (t := e) (fr := (0, 0)) (heap_alloc_new _ _)
set_option maxRecDepth 100000 in
set_option maxHeartbeats 6400000 in
theorem used_any (many : List Int) (a : Option Addr) (n cap : Nat) (w : World) (hI : IntsIn w a n many) (hn : n ≤ 1000000) :
    Calls Tryz.prog 54 #[.slice a n cap] w fun e w' => ∃ v u, e = .returned v ∧ IsUsed many many.length u ∧ OwnX w w' 3 v (i64s u) ∧ Upd [] w w' := by
  obtain ⟨i0, hi, hz0, hz1, hz2⟩ := info_parts infoInt
  have HI := Lib.hid hI
  have HSO := Lib.hid (fun bx w1 v h1 h2 h3 => sortU many a n cap bx w w1 v h1 hI hn h2 h3)
  have HLN := Lib.hid hI.len
  clear hI
  go_enter Tryz.func54, Tryz.ntmps54
  go_wp2
  go_loopg [2, 7] 1000000 (fun gg s2 s7 wr => ∃ i : Nat, i ≤ n ∧ gg = 1000000 - i ∧ s7 = .int .i64 (i : Nat) ∧ Hid (OwnX w wr 3 s2 (i64s (rawU many i))) ∧ Hid (Upd [] w wr) ∧ Hid (Blk wr w.heap.size [.slice a n cap] 55))
  case atStart => exact ⟨0, by omega, rfl, rfl, Lib.hid (OwnX.nil _ _ _), Lib.hid (((Upd.refl _ _).alloc _)), Lib.hid (Blk.new w _ _)⟩
  case round =>
    obtain ⟨i, hin, rfl, rfl, HO, HU, HB⟩ := hrel
    by_cases hc : i < n
    · have hcz : (i : Int) < (n : Int) := by omega
      have hil : i < many.length := by rw [HLN.out]; exact hc
      obtain ⟨b, off, rfl, hc1, r1, r2⟩ := (HI.out.pure HU.out).cell i hil
      have HRS : Hid (rawU many (i + 1) = rawU many i ++ if 0 < many[i] then [i] else []) := Lib.hid (by rw [rawU_succ]; simp [List.getD_eq_getElem?_getD, hil])
      generalize many[i] = m at *
      have hbx := HB.out.cell 0 rfl
      clear hil
      obtain ⟨va, vc, rfl⟩ := HO.out.form
      obtain ⟨fl, hfl⟩ : ∃ fl, (i64s (rawU many i)).length = fl := ⟨_, rfl⟩
      rw [hfl] at HO ⊢
      have HFL := Lib.hid hfl
      have hfb : fl ≤ 1000000 := by rw [← hfl, length_i64s]; have := rawU_len many i; omega
      have hw1 : IntKind.i64.wrap ((i : Int) + 1) = ((i + 1 : Nat) : Int) := by rw [IntWalk.i64_in _ (by omega)]; rfl
      clear hfl
      by_cases hp : 0 < m
      · have HR2 : Hid (i64s (rawU many (i + 1)) = i64s (rawU many i) ++ [.int .i64 (i : Int)]) := Lib.hid (by rw [HRS.out, if_pos hp]; simp [i64s])
        have hRz := HO.out.1.alloc (.cells #[.int .i64 (i : Int)] 3)
        rw [HFL.out] at hRz
        clear HRS
        go_wp2_with (at_builtin; refine wpList_app _ rfl _ _ 55 rfl 3 i0 _ 1 8 Tryz.underlying55 hi hz0 hz1 hz2 rfl (by omega) (.slice va fl vc) fl _ rfl hRz ⟨wr.heap.size, 0, none⟩ 1 1 [.int .i64 (i : Int)] rfl rfl (news1 _ _ _) (by simp [Value.oneCell']) (by unfold maxLen; omega) (by omega) ?_)
        intro v4 w4 hR4 hU4 hT4
        have hap := HO.out.app HU.out ((Upd.refl [] wr).alloc (.cells #[.int .i64 (i : Int)] 3)) (ys := [.int .i64 (i : Int)]) (by rw [HFL.out]; exact hR4) hU4 hT4
        have hb4 := (HB.out.alloc (.cells #[.int .i64 (i : Int)] 3)).upd hU4 (fun hm => (HO.out.1.neB HB.out (by decide)) (by simpa using hm))
        have HAP := Lib.hid hap
        have HB4 := Lib.hid hb4
        clear hR4 hU4 hT4 hap hb4 hRz
        go_wp2
        go_roundg (1000000 - (i + 1))
        · exact ⟨i + 1, by omega, rfl, by first | rfl | go_num, Lib.hid (by rw [HR2.out]; exact HAP.out.1), Lib.hid HAP.out.2, HB4⟩
        · omega
      · have HR2 : Hid (rawU many (i + 1) = rawU many i) := Lib.hid (by rw [HRS.out, if_neg hp, List.append_nil])
        clear HRS
        go_wp2
        go_roundg (1000000 - (i + 1))
        · exact ⟨i + 1, by omega, rfl, by first | rfl | go_num, Lib.hid (by rw [HR2.out]; exact HO.out), HU, HB⟩
        · omega
    · have hcz : ¬ (i : Int) < (n : Int) := by omega
      obtain rfl : i = n := by omega
      go_wp2_with fail
      refine (HSO.out _ _ _ HB.out HU.out HO.out).mono ?_
      rintro e w1 ⟨rfl, u, h1, h2, h3⟩
      have H1 := Lib.hid h1
      have H2 := Lib.hid h2
      have H3 := Lib.hid h3
      clear h1 h2 h3
      go_wp2
      go_ret
      exact ⟨_, u, rfl, H1.out, H2.out, H3.out⟩
end Go.Proofs.YtdehkaknbmbieaaGreat

/- Package lens: Used: its walk (slices.SortFunc by the shelf's contract). -/
import Derived.Test.YtdehkaknbmbieaaQAK
import Derived.Test.YtdehkaknbmbieaaPkd
import Derived.Test.YtdehkaknbmbieaaFil
import Derived.ArgAppend
namespace Go.Proofs.Ytdehkaknbmbieaa
set_option linter.unusedVariables false
set_option linter.unusedSimpArgs false
set_option linter.unusedSectionVars false
open Go.RowKit
set_option linter.unusedVariables false
set_option linter.unusedSimpArgs false

/-- The symbols below n that are used, as they stand. -/
def rawU (many : List Int) (n : Nat) : List Nat := (List.range n).filter fun i => decide (0 < many.getD i 0)
theorem rawU_succ (many : List Int) (n : Nat) : rawU many (n + 1) = rawU many n ++ if 0 < many.getD n 0 then [n] else [] := by
  unfold rawU
  rw [List.range_succ, List.filter_append]
  by_cases h : 0 < many.getD n 0
  · rw [if_pos h, List.filter_cons_of_pos (by simpa using h)]; rfl
  · rw [if_neg h, List.filter_cons_of_neg (by simpa using h)]; rfl
theorem rawU_mem (many : List Int) (n i : Nat) : i ∈ rawU many n ↔ i < n ∧ 0 < many.getD i 0 := by
  unfold rawU
  rw [List.mem_filter, List.mem_range]
  simp
theorem rawU_len (many : List Int) (n : Nat) : (rawU many n).length ≤ n := by
  have := List.length_filter_le (fun i => decide (0 < many.getD i 0)) (List.range n)
  rw [List.length_range] at this
  exact this
theorem cfN_neg (many : List Int) (x y : Nat) : cfN many x y < 0 ↔ Ahead many x y := by
  unfold cfN orN Ahead
  rcases cmpN_cases (nearN (many.getD x 0)) (nearN (many.getD y 0)) with ⟨h, e⟩ | ⟨h, e⟩ | ⟨h, e⟩
  · rw [e]
    rw [if_neg (by omega)]
    constructor
    · intro _; exact .inl h
    · intro _; omega
  · rw [e]
    rw [if_neg (by omega)]
    constructor
    · intro k; omega
    · intro k; omega
  · rw [e, if_pos rfl]
    rcases cmpN_cases x y with ⟨h2, e2⟩ | ⟨h2, e2⟩ | ⟨h2, e2⟩ <;> rw [e2] <;> constructor <;> intro k <;> omega
def cfF (many : List Int) (m : Nat) (x y : Fin (m + 1)) : Int := cfN many x.1 y.1
theorem ltF (many : List Int) (m : Nat) (x y : Fin (m + 1)) : ltOf (cfF many m) x y = true ↔ Ahead many x.1 y.1 := by
  unfold ltOf cfF
  rw [decide_eq_true_eq]
  exact cfN_neg many x.1 y.1
theorem ltF_false (many : List Int) (m : Nat) (x y : Fin (m + 1)) : ltOf (cfF many m) x y = false ↔ ¬ Ahead many x.1 y.1 := by
  rw [← ltF]
  cases ltOf (cfF many m) x y <;> simp
theorem ahead_tri {many : List Int} {a b : Nat} (h1 : ¬ Ahead many a b) (h2 : a ≠ b) : Ahead many b a := by
  unfold Ahead at *
  omega
theorem swoF (many : List Int) (m : Nat) : Sort.SWO (ltOf (cfF many m)) where
  irrefl x := by rw [ltF_false]; exact Ahead.irrefl
  trans x y z h1 h2 := by rw [ltF] at *; exact h1.trans h2
  ntrans x y z h1 h2 := by
    rw [ltF_false] at *
    unfold Ahead at *
    omega
theorem totF (many : List Int) (m : Nat) (x y : Fin (m + 1)) (h1 : ltOf (cfF many m) x y = false) (h2 : ltOf (cfF many m) y x = false) : x = y := by
  rw [ltF_false] at *
  apply Fin.ext
  unfold Ahead at *
  omega
/-- What the sort leaves is the order that is asked for. -/
theorem sorted_used (many : List Int) (m : Nat) (hm : many.length = m + 1) (d : List (Fin (m + 1))) (hd : d.map Fin.val = rawU many (m + 1)) : IsUsed many many.length ((d.mergeSort fun x y => !(ltOf (cfF many m)) y x).map Fin.val) := by
  have hp := List.mergeSort_perm d (fun x y => !(ltOf (cfF many m)) y x)
  constructor
  · intro i
    rw [((hp.map Fin.val).mem_iff), hd, rawU_mem, hm]
  · have hs := List.pairwise_mergeSort (le := fun x y => !(ltOf (cfF many m)) y x) (fun a b c h1 h2 => by
      simp only [Bool.not_eq_true'] at *
      rw [ltF_false] at *
      unfold Ahead at *
      omega) (fun a b => by
      simp only [Bool.or_eq_true, Bool.not_eq_true']
      rw [ltF_false, ltF_false]
      unfold Ahead
      omega) d
    have hn : (d.mergeSort fun x y => !(ltOf (cfF many m)) y x).Nodup := by
      rw [hp.nodup_iff]
      have : (d.map Fin.val).Nodup := by rw [hd]; exact List.nodup_range.filter _
      exact List.Pairwise.of_map Fin.val (fun a b h e => h (by rw [e])) this
    rw [List.pairwise_map]
    refine (hs.and hn).imp ?_
    intro a b ⟨h1, h2⟩
    simp only [Bool.not_eq_true'] at h1
    rw [ltF_false] at h1
    exact ahead_tri h1 (fun e => h2 (Fin.ext e.symm))
theorem sortU (many : List Int) (a : Option Addr) (n cap bx : Nat) (w0 w : World) (v : Value) (hB : Blk w bx [.slice a n cap] 22) (hI : IntsIn w0 a n many) (hn : n ≤ 1000000) (hu : Upd [] w0 w) (hO : OwnX w0 w 3 v (i64s (rawU many n))) :
    Calls Try.prog 48 #[v, .func (.func 49) #[] #[.pointer (some ⟨bx, 0, none⟩)]] w fun e w' => e = .returned (.tuple #[]) ∧ ∃ u, IsUsed many many.length u ∧ OwnX w0 w' 3 v (i64s u) ∧ Upd [] w0 w' := by
  by_cases hd : rawU many n = []
  · rw [hd] at hO
    obtain ⟨a', c', rfl⟩ := hO.form
    have h := AnyF.slices_SortFunc_none (P := Try.prog) (ρ := Ytdehkaknbmbieaa.sortL_ren) { Ytdehkaknbmbieaa.sortL with } a' c' (.func (.func 49) #[] #[.pointer (some ⟨bx, 0, none⟩)]) w
    change Calls Try.prog 48 _ _ _ at h
    refine h.mono ?_
    rintro e w' ⟨rfl, rfl⟩
    refine ⟨rfl, [], ⟨fun i => ?_, List.Pairwise.nil⟩, hO, hu⟩
    have := rawU_mem many n i
    rw [hd, ← hI.len] at this
    exact this
  · obtain ⟨m, hm⟩ : ∃ m, n = m + 1 := by
      cases n with
      | zero => exact absurd rfl hd
      | succ m => exact ⟨m, rfl⟩
    subst hm
    have hlen : many.length = m + 1 := hI.len
    have hdl : ∃ d : List (Fin (m + 1)), d.map Fin.val = rawU many (m + 1) := ⟨(rawU many (m + 1)).attach.map fun x => ⟨x.1, ((rawU_mem _ _ _).1 x.2).1⟩, by simp⟩
    obtain ⟨d, hdm⟩ := hdl
    have henc : i64s (rawU many (m + 1)) = d.map fun x : Fin (m + 1) => Value.int .i64 (x.1 : Int) := by rw [← hdm]; simp [i64s]
    have hk : d.length = (i64s (rawU many (m + 1))).length := by rw [henc]; simp
    have hpos : 0 < (i64s (rawU many (m + 1))).length := by
      rw [length_i64s]
      cases h : rawU many (m + 1) with
      | nil => exact absurd h hd
      | cons => simp
    obtain ⟨blk, c', rfl, hbl, _⟩ := hO.1.form' hpos
    have hblk : w0.heap.size ≤ blk := hO.2 blk rfl
    have hR := hO.1
    obtain ⟨K, hK⟩ : ∃ K, (i64s (rawU many (m + 1))).length = K := ⟨_, rfl⟩
    rw [hK] at hR hk hpos ⊢
    rw [henc] at hR
    have hne : bx ≠ blk := fun e => hR.neB hB (by decide) (by rw [e]; rfl)
    have ha : ∀ b off, a = some ⟨b, off, none⟩ → b ∉ [blk] := by
      intro b off e
      obtain ⟨b', off', e', hc, _⟩ := hI.cell 0 (by omega)
      rw [e] at e'
      injection e' with e'
      injection e' with e1
      have := World.block_lt_of_cell? w0 _ hc
      simp at this ⊢
      omega
    have h := Any.slices_SortFunc_total (P := Try.prog) (ρ := Ytdehkaknbmbieaa.sortL_ren) Ytdehkaknbmbieaa.sortL (fun x : Fin (m + 1) => Value.int .i64 (x.1 : Int)) (fun x => by simp [Value.oneCell']) (cfF many m) (swoF many m) 49 #[.pointer (some ⟨bx, 0, none⟩)] blk 0 c' d.toArray w (enters_of Try.func49 (by kernel_rfl) rfl)
      (fun k os dk hs x y => by
        refine (usedCmp_any many a (m + 1) cap bx x.1 y.1 _ ((hB.upd (sortW_upd _ w blk 0 k dk os) (by simpa using hne)).cell 0 rfl) ((hI.pure hu).upd (sortW_upd _ w blk 0 k dk os) ha) x.2 y.2 hn).mono ?_
        rintro e w' ⟨rfl, q, os', rfl⟩
        exact ⟨rfl, q, os', rfl⟩)
      (fun j hj => by
        have hj2 : j < d.length := by simpa using hj
        refine ⟨?_, by rw [Nat.zero_add]; exact hR.frz j⟩
        rw [Nat.zero_add, hR.cell j (u := .int .i64 (d[j].1 : Int)) (by simp [hj2])]
        rw [getElem!_pos _ j hj]
        simp)
      hbl (by have h1 := rawU_len many (m + 1); rw [length_i64s] at hK; simp; omega) (totF many m)
    change Calls Try.prog 48 _ _ _ at h
    rw [List.size_toArray, hk] at h
    refine h.mono ?_
    rintro e w' ⟨rfl, q, os, rfl⟩
    refine ⟨rfl, (d.mergeSort fun x y => !(ltOf (cfF many m)) y x).map Fin.val, sorted_used many m hlen d hdm, ⟨?_, hO.2⟩, hu.trans (sortW_upd _ w blk 0 q _ os) (fun k hk => .inr (by simp at hk; omega))⟩
    have hl2 : (d.mergeSort fun x y => !(ltOf (cfF many m)) y x).length = K := by rw [List.length_mergeSort, hk]
    have hs := sortW_row (fun x : Fin (m + 1) => Value.int .i64 (x.1 : Int)) w blk q _ c' 3 (d.mergeSort fun x y => !(ltOf (cfF many m)) y x) _ os hl2 hR
    have e2 : i64s ((d.mergeSort fun x y => !(ltOf (cfF many m)) y x).map Fin.val) = (d.mergeSort fun x y => !(ltOf (cfF many m)) y x).map (fun x : Fin (m + 1) => Value.int .i64 (x.1 : Int)) := by simp [i64s]
    have e3 : (i64s ((d.mergeSort fun x y => !(ltOf (cfF many m)) y x).map Fin.val)).length = K := by rw [e2, List.length_map, hl2]
    rw [e2] at e3 ⊢
    rw [e3]
    exact hs
/-- A new word of a row: what is read of it. -/
theorem news1 (w : World) (v : Value) (e : TypeId) : ∀ j u, [v][j]? = some u → (w.alloc (.cells #[v] e)).cell? ((⟨w.heap.size, 0, none⟩ : Addr).add j) = some u := World.news_of_block (cs := #[v]) (t := e) (fr := (0, 0)) (heap_alloc_new _ _)
set_option maxRecDepth 100000 in
set_option maxHeartbeats 6400000 in
theorem used_any (many : List Int) (a : Option Addr) (n cap : Nat) (w : World) (hI : IntsIn w a n many) (hn : n ≤ 1000000) :
    Calls Try.prog 14 #[.slice a n cap] w fun e w' => ∃ v u, e = .returned v ∧ IsUsed many many.length u ∧ OwnX w w' 3 v (i64s u) ∧ Upd [] w w' := by
  obtain ⟨i0, hi, hz0, hz1, hz2⟩ := info_parts infoInt
  have HI := Lib.hid hI
  have HSO := Lib.hid (fun bx w1 v h1 h2 h3 => sortU many a n cap bx w w1 v h1 hI hn h2 h3)
  have HLN := Lib.hid hI.len
  clear hI
  go_enter Try.func14, Try.ntmps14
  go_wp2
  go_loopg [2, 7] 1000000 (fun gg s2 s7 wr => ∃ i : Nat, i ≤ n ∧ gg = 1000000 - i ∧ s7 = .int .i64 (i : Nat) ∧ Hid (OwnX w wr 3 s2 (i64s (rawU many i))) ∧ Hid (Upd [] w wr) ∧ Hid (Blk wr w.heap.size [.slice a n cap] 22))
  case atStart => exact ⟨0, by omega, rfl, rfl, Lib.hid (OwnX.nil _ _ _), Lib.hid (((Upd.refl _ _).alloc _)), Lib.hid (Blk.new w _ _)⟩
  case round =>
    obtain ⟨i, hin, rfl, rfl, HO, HU, HB⟩ := hrel
    by_cases hc : i < n
    · have hcz : (i : Int) < (n : Int) := by omega
      have hil : i < many.length := by rw [HLN.out]; exact hc
      obtain ⟨b, off, rfl, hc1, r1, r2⟩ := (HI.out.pure HU.out).cell i hil
      have HRS : Hid (rawU many (i + 1) = rawU many i ++ if 0 < many[i] then [i] else []) := Lib.hid (by rw [rawU_succ]; simp [List.getD_eq_getElem?_getD, hil])
      generalize many[i] = m at *
      have hbx := HB.out.cell 0 rfl
      clear hil
      obtain ⟨va, vc, rfl⟩ := HO.out.form
      obtain ⟨fl, hfl⟩ : ∃ fl, (i64s (rawU many i)).length = fl := ⟨_, rfl⟩
      rw [hfl] at HO ⊢
      have HFL := Lib.hid hfl
      have hfb : fl ≤ 1000000 := by rw [← hfl, length_i64s]; have := rawU_len many i; omega
      have hw1 : IntKind.i64.wrap ((i : Int) + 1) = ((i + 1 : Nat) : Int) := by rw [IntWalk.i64_in _ (by omega)]; rfl
      clear hfl
      by_cases hp : 0 < m
      · have HR2 : Hid (i64s (rawU many (i + 1)) = i64s (rawU many i) ++ [.int .i64 (i : Int)]) := Lib.hid (by rw [HRS.out, if_pos hp]; simp [i64s])
        have hRz := HO.out.1.alloc (.cells #[.int .i64 (i : Int)] 3)
        rw [HFL.out] at hRz
        clear HRS
        go_wp2_with (at_builtin; refine wpList_app _ rfl _ _ 22 rfl 3 i0 _ 1 8 Try.underlying22 hi hz0 hz1 hz2 rfl (by omega) (.slice va fl vc) fl _ rfl hRz ⟨wr.heap.size, 0, none⟩ 1 1 [.int .i64 (i : Int)] rfl rfl (news1 _ _ _) (by simp [Value.oneCell']) (by unfold maxLen; omega) (by omega) ?_)
        intro v4 w4 hR4 hU4 hT4
        have hap := HO.out.app HU.out ((Upd.refl [] wr).alloc (.cells #[.int .i64 (i : Int)] 3)) (ys := [.int .i64 (i : Int)]) (by rw [HFL.out]; exact hR4) hU4 hT4
        have hb4 := (HB.out.alloc (.cells #[.int .i64 (i : Int)] 3)).upd hU4 (fun hm => (HO.out.1.neB HB.out (by decide)) (by simpa using hm))
        have HAP := Lib.hid hap
        have HB4 := Lib.hid hb4
        clear hR4 hU4 hT4 hap hb4 hRz
        go_wp2
        go_roundg (1000000 - (i + 1))
        · exact ⟨i + 1, by omega, rfl, by first | rfl | go_num, Lib.hid (by rw [HR2.out]; exact HAP.out.1), Lib.hid HAP.out.2, HB4⟩
        · omega
      · have HR2 : Hid (rawU many (i + 1) = rawU many i) := Lib.hid (by rw [HRS.out, if_neg hp, List.append_nil])
        clear HRS
        go_wp2
        go_roundg (1000000 - (i + 1))
        · exact ⟨i + 1, by omega, rfl, by first | rfl | go_num, Lib.hid (by rw [HR2.out]; exact HO.out), HU, HB⟩
        · omega
    · have hcz : ¬ (i : Int) < (n : Int) := by omega
      obtain rfl : i = n := by omega
      go_wp2_with fail
      refine (HSO.out _ _ _ HB.out HU.out HO.out).mono ?_
      rintro e w1 ⟨rfl, u, h1, h2, h3⟩
      have H1 := Lib.hid h1
      have H2 := Lib.hid h2
      have H3 := Lib.hid h3
      clear h1 h2 h3
      go_wp2
      go_ret
      exact ⟨_, u, rfl, H1.out, H2.out, H3.out⟩
end Go.Proofs.Ytdehkaknbmbieaa
namespace Go.Proofs.Ytdehkaknbmbieaa
set_option linter.unusedVariables false
set_option linter.unusedSimpArgs false
set_option linter.unusedSectionVars false
open Go.RowKit
set_option linter.unusedVariables false
set_option linter.unusedSimpArgs false

theorem mkInts (n : Nat) (hn : n ≤ 1000000) (w : World) : (Instr.makeSlice 22 (.int .i64 (n : Int)) (.int .i64 (n : Int))).run Try.prog w = .ok (.slice (some ⟨w.heap.size, 0, none⟩) n n) (w.alloc (.cells (i64s (List.replicate n 0)).toArray 3)) := by
  obtain ⟨i0, hi, hz0, hz1, hz2⟩ := info_parts infoInt
  have h := run_make (P := Try.prog) w 22 3 i0 _ Try.underlying22 hi hz0 .i64 .i64 (n : Int) (n : Int) (by omega) (by omega) (by rw [hz2]; omega) (by omega)
  rw [h, hz1]
  have e : madeCells (Value.int .i64 0).cells ((n : Int).toNat * 1) = (i64s (List.replicate n 0)).toArray := by
    apply Array.toList_inj.1
    rw [show (Value.int .i64 0).cells = #[Value.int .i64 0] from rfl, toList_madeCells_one]
    simp [i64s]
  rw [e]
  rfl
/-- The lengths that lens.Of gives. -/
def ofL (many : List Int) (u : List Nat) (L n : Nat) : List Nat := if u.length = 1 then (List.replicate n 0).set (u.getD 0 0) 1 else (List.range n).map fun s => lenAt many u L s
def OfBad (L : Int) (n : Nat) (u : List Nat) : Prop := L < 1 ∨ 15 < L ∨ 300 < n ∨ 2 ^ L.toNat < u.length
def OfOut (many : List Int) (u : List Nat) (L : Int) (n : Nat) (w : World) (v : Value) (w' : World) : Prop :=
  (OfBad L n u ∧ v = .slice none 0 0) ∨ (¬ OfBad L n u ∧ ∃ ob, v = .slice (some ⟨ob, 0, none⟩) n n ∧ w.heap.size ≤ ob ∧ Blk w' ob (i64s (ofL many u L.toNat n)) 3)
def OfP (many : List Int) (L : Int) (n : Nat) (w : World) (e : Ending) (w' : World) : Prop := ∃ v u, e = .returned v ∧ IsUsed many many.length u ∧ OfOut many u L n w v w' ∧ Upd [] w w'
theorem used_ex (many : List Int) : ∃ u, IsUsed many many.length u := by
  cases h : many.length with
  | zero => exact ⟨[], IsUsed.nil many⟩
  | succ m =>
    have hdl : ∃ d : List (Fin (m + 1)), d.map Fin.val = rawU many (m + 1) := ⟨(rawU many (m + 1)).attach.map fun x => ⟨x.1, ((rawU_mem _ _ _).1 x.2).1⟩, by simp⟩
    obtain ⟨d, hdm⟩ := hdl
    have := sorted_used many m h d hdm
    rw [h] at this
    exact ⟨_, this⟩
set_option maxRecDepth 100000 in
set_option maxHeartbeats 6400000 in
theorem of_any (many : List Int) (a : Option Addr) (n cap : Nat) (L : Int) (w : World) (hI : IntsIn w a n many) (hn : n ≤ 1000000) :
    Calls Try.prog 11 #[.slice a n cap, .int .i64 L] w fun e w' => OfP many L n w e w' := by
  have HUSD := Lib.hid (fun w1 (h : Upd [] w w1) => used_any many a n cap w1 (hI.pure h) hn)
  have HI := Lib.hid hI
  obtain ⟨u0, hu0⟩ := used_ex many
  have HU0 := Lib.hid hu0
  have HLN := Lib.hid hI.len
  clear hI hu0
  by_cases h1 : L < 1
  · go_enter Try.func11, Try.ntmps11
    go_wp2
    go_ret
    exact ⟨_, u0, rfl, HU0.out, .inl ⟨.inl h1, rfl⟩, Upd.refl _ _⟩
  by_cases h2 : 15 < L
  · go_enter Try.func11, Try.ntmps11
    go_wp2
    go_ret
    exact ⟨_, u0, rfl, HU0.out, .inl ⟨.inr (.inl h2), rfl⟩, Upd.refl _ _⟩
  by_cases h3 : 300 < n
  · have h3z : (300 : Int) < (n : Int) := by omega
    go_enter Try.func11, Try.ntmps11
    go_wp2
    go_ret
    exact ⟨_, u0, rfl, HU0.out, .inl ⟨.inr (.inr (.inl h3)), rfl⟩, Upd.refl _ _⟩
  have h3z : ¬ (300 : Int) < (n : Int) := by omega
  have hmk := mkInts n hn
  obtain ⟨l, rfl⟩ : ∃ l : Nat, L = (l : Int) := ⟨L.toNat, by omega⟩
  have hl1 : 1 ≤ l := by omega
  have hl2 : l ≤ 15 := by omega
  obtain ⟨P, hP⟩ : ∃ P : Nat, 2 ^ l = P := ⟨_, rfl⟩
  have hPb : P ≤ 32768 := by
    have := Nat.pow_le_pow_right (n := 2) (by omega) hl2
    omega
  have hpw : wrap64 ((2 : Int) ^ l) = (P : Int) := by
    have : ((2 : Int) ^ l) = (P : Int) := by rw [← hP]; simp
    rw [this]
    unfold wrap64
    omega
  have HPP := Lib.hid hP
  clear hP
  go_enter Try.func11, Try.ntmps11
  go_wp2_with fail
  refine (HUSD.out _ (Upd.refl _ _)).mono ?_
  rintro e w1 ⟨v1, u, rfl, hu, hO, hU⟩
  obtain ⟨a1, c1, rfl⟩ := hO.form
  obtain ⟨k, hk⟩ : ∃ k, (i64s u).length = k := ⟨_, rfl⟩
  rw [hk] at hO ⊢
  have HK : Hid (u.length = k) := Lib.hid (by rw [← hk, length_i64s])
  have HUs := Lib.hid hu
  have HR1 : Hid (Row w1 3 1 (.slice a1 k c1) k (i64s u)) := Lib.hid (by have := hO.1; rwa [hk] at this)
  have HU := Lib.hid hU
  clear hk hu hO hU HUSD HU0
  have HTN : Hid ((l : Int).toNat = l) := Lib.hid (by omega)
  by_cases hb : P < k
  · have hbz : (P : Int) < (k : Int) := by omega
    go_wp2
    go_ret
    exact ⟨_, u, rfl, HUs.out, .inl ⟨.inr (.inr (.inr (by rw [HTN.out, HPP.out, HK.out]; exact hb))), rfl⟩, HU.out.alloc _⟩
  have hbz : ¬ (P : Int) < (k : Int) := by omega
  have HNB : Hid (¬ OfBad (l : Int) n u) := Lib.hid (by
    unfold OfBad
    rw [HTN.out, HPP.out, HK.out]
    omega)
  rcases Nat.lt_or_ge k 1 with hk0 | hk0
  · obtain rfl : k = 0 := by omega
    go_wp2
    go_ret
    refine ⟨_, u, rfl, HUs.out, .inr ⟨HNB.out, _, rfl, HU.out.size, ?_⟩, HU.out.alloc _⟩
    have hu : u = [] := List.eq_nil_of_length_eq_zero HK.out
    have e : ofL many u (l : Int).toNat n = List.replicate n 0 := by
      subst hu
      unfold ofL
      rw [if_neg (by simp)]
      apply List.ext_getElem
      · simp
      · intro i h1 h2
        simp [lenAt, sumC]
    rw [e]
    exact Blk.new w1 _ _
  · rcases Nat.lt_or_ge k 2 with hk1 | hk1
    · obtain rfl : k = 1 := by omega
      have hu1 : u.length = 1 := HK.out
      have hlt : u[0] < n := by have := ((HUs.out.mem u[0]).1 (List.getElem_mem (by omega))).1; rwa [HLN.out] at this
      obtain ⟨g, c2, hv, hg, hle⟩ := HR1.out.form' (by omega)
      cases hv
      have hc1 : w1.cell? ⟨g, 0, none⟩ = some (.int .i64 (u[0] : Nat)) := HR1.out.cell 0 (by rw [i64s, List.getElem?_map, List.getElem?_eq_getElem (by omega)]; rfl)
      have HE : Hid (ofL many u (l : Int).toNat n = (List.replicate n 0).set u[0] 1) := Lib.hid (by
        unfold ofL
        rw [if_pos hu1]
        simp [List.getD_eq_getElem?_getD, hu1])
      generalize u[0] = s at *
      have hsz : (s : Int) < (n : Int) := by omega
      have hb1 := Blk.new w1 (i64s (List.replicate n 0)) 3
      have hf1 := hb1.frz s
      have hcc := hb1.cell s (v := .int .i64 0) (by simp [i64s, hlt])
      have hcg : (w1.alloc (.cells (i64s (List.replicate n 0)).toArray 3)).cell? ⟨g, 0, none⟩ = some (.int .i64 (s : Nat)) := ((Upd.refl [] w1).alloc (.cells (i64s (List.replicate n 0)).toArray 3)).at hg (by simp) 0 |>.trans hc1
      have HB1 := Lib.hid hb1
      have HU2 := Lib.hid (HU.out.alloc (.cells (i64s (List.replicate n 0)).toArray 3))
      have HSZ := Lib.hid HU.out.size
      clear hb1 hu1 hg hc1 HK HR1 hle
      go_wp2
      go_ret
      refine ⟨_, u, rfl, HUs.out, .inr ⟨HNB.out, _, rfl, HSZ.out, ?_⟩, HU.out.alloc _⟩
      rw [HE.out, i64s_set]
      exact Blk.new w1 _ _
    · have hk1z : ¬ k = 1 := by omega
      have hk1y : (1 : Int) < (k : Int) := by omega
      have hrow : 2 * k - 2 ≤ (rowC (lvs many u) l).length := by
        have := (len_fit many u l HUs.out.srt (by rw [HK.out]; exact hk1) (by rw [HK.out, HPP.out]; omega)).1
        rwa [HK.out] at this
      have hun : k ≤ n := by
        have := HUs.out.le
        rw [HK.out, HLN.out] at this
        exact this
      have hua : Upd [] w1 (w1.alloc (.cells (i64s (List.replicate n 0)).toArray 3)) := (Upd.refl _ _).alloc _
      obtain ⟨g, c2, hv, hg, hle⟩ := HR1.out.form' (by omega)
      cases hv
      have HF := Lib.hid (fill_any many u l n n w1.heap.size k c1 cap (some ⟨g, 0, none⟩) a _ (Blk.new w1 (i64s (List.replicate n 0)) 3) (fun i hi => ⟨g, 0, rfl, by
          rw [Nat.zero_add]
          exact (hua.at hg (by simp) i).trans (HR1.out.cell i (by rw [i64s, List.getElem?_map, List.getElem?_eq_getElem hi]; rfl))⟩)
        ((HI.out.pure HU.out).pure hua) (by omega) hl2 HK.out hk1 hun (fun s hs => by have := ((HUs.out.mem s).1 hs).1; rwa [HLN.out] at this) hrow)
      clear hrow hun hua hg hle
      go_wp2_with fail
      refine HF.out.mono ?_
      rintro e w4 ⟨rfl, hB4, hU4⟩
      have HB4 := Lib.hid hB4
      have HU4 := Lib.hid hU4
      have HSZ := Lib.hid HU.out.size
      clear hB4 hU4 HF
      go_wp2
      go_ret
      refine ⟨_, u, rfl, HUs.out, .inr ⟨HNB.out, _, rfl, HSZ.out, ?_⟩, (HU.out.alloc _).trans HU4.out (fun q hq => .inr (by simp at hq; have := HSZ.out; omega))⟩
      have e : ofL many u (l : Int).toNat n = (List.range n).map fun s => lenAt many u l s := by
        unfold ofL
        rw [if_neg (by rw [HK.out]; omega), HTN.out]
      rw [e]
      exact HB4.out
end Go.Proofs.Ytdehkaknbmbieaa
namespace Go.Proofs.Ytdehkaknbmbieaa
set_option linter.unusedVariables false
set_option linter.unusedSimpArgs false
set_option linter.unusedSectionVars false
open Go.RowKit
set_option linter.unusedVariables false
set_option linter.unusedSimpArgs false

/-- A row of numbers, as integers. -/
def ints (l : List Nat) : List Int := l.map fun x : Nat => (x : Int)
theorem IntsIn.row {w : World} {t : TypeId} {a : Option Addr} {k c : Nat} {l : List Nat} (h : Row w t 1 (.slice a k c) k (i64s l)) (hb : ∀ x ∈ l, x ≤ 9223372036854775807) : IntsIn w a k (ints l) := by
  have hl : l.length = k := by have := h.len; rw [length_i64s] at this; omega
  refine ⟨by simp [ints, hl], fun i hi => ?_⟩
  have hi2 : i < l.length := by simpa [ints] using hi
  obtain ⟨g, cc, e, _, _⟩ := h.form' (by omega)
  cases e
  have hx := hb _ (List.getElem_mem hi2)
  refine ⟨g, 0, rfl, ?_, by simp [ints] <;> omega, by simp [ints] <;> omega⟩
  rw [Nat.zero_add, h.cell i (u := .int .i64 (l[i] : Nat)) (by simp [i64s, hi2])]
  simp [ints]
theorem OwnX.ints {w0 w : World} {t : TypeId} {v : Value} {l : List Nat} (h : OwnX w0 w t v (i64s l)) (hb : ∀ x ∈ l, x ≤ 9223372036854775807) : ∃ a c, v = .slice a l.length c ∧ IntsIn w a l.length (ints l) := by
  obtain ⟨a, c, rfl⟩ := h.form
  have h1 := h.1
  rw [length_i64s] at h1 ⊢
  exact ⟨a, c, rfl, IntsIn.row h1 hb⟩
theorem IntsIn.blk {w : World} {b n : Nat} {t : TypeId} {l : List Nat} (h : Blk w b (i64s l) t) (hn : l.length = n) (hb : ∀ x ∈ l, x ≤ 9223372036854775807) : IntsIn w (some ⟨b, 0, none⟩) n (ints l) := by
  refine ⟨by simp [ints, hn], fun i hi => ?_⟩
  have hi2 : i < l.length := by simpa [ints] using hi
  have hx := hb _ (List.getElem_mem hi2)
  refine ⟨b, 0, rfl, ?_, by simp [ints] <;> omega, by simp [ints] <;> omega⟩
  rw [Nat.zero_add, h.cell i (v := .int .i64 (l[i] : Nat)) (by simp [i64s, hi2])]
  simp [ints]
def LivesP (w : World) (e : Ending) (w' : World) : Prop := e = .returned (.bool true) ∧ Upd [] w w'
end Go.Proofs.Ytdehkaknbmbieaa

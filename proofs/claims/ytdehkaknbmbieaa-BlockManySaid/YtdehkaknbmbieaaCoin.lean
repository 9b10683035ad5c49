/- Coins in memory: what lies where; the comparison of two; slices.Grow of nil. -/
import Derived.Test.YtdehkaknbmbieaaLenN
import Derived.Test.YtdehkaknbmbieaaHeld
import Derived.Lib.AppendZerosOnto
namespace Go.Proofs.Ytdehkaknbmbieaa
set_option linter.unusedVariables false
set_option linter.unusedSimpArgs false
set_option linter.unusedSectionVars false
open Go.RowKit
set_option linter.unusedVariables false
set_option linter.unusedSimpArgs false

/-- A coin lies where a pointer leads. -/
def CoinAt (w : World) : Value → Coin → Prop
  | p, .leaf wt s => ∃ b, p = .pointer (some ⟨b, 0, none⟩) ∧ Blk w b [.int .i64 (wt : Nat), .int .i64 (s : Nat), .slice none 0 0] 120
  | p, .pack a c => ∃ (b g i cap : Nat) (pa pc : Value) (arr : Array Value) (fr : Nat × Nat), p = .pointer (some ⟨b, 0, none⟩) ∧ Blk w b [.int .i64 ((a.w + c.w : Nat) : Int), .int .i64 0, .slice (some ⟨g, i, none⟩) 2 cap] 120 ∧
      w.heap[g]? = some (.cells arr 118 fr) ∧ arr[i]? = some pa ∧ arr[i + 1]? = some pc ∧ CoinAt w pa a ∧ CoinAt w pc c
/-- Blocks of coins and of pointers to them lie as they lay. -/
def KeepC (w w' : World) : Prop := ∀ (k : Nat) (cs : Array Value) (t : TypeId) (fr : Nat × Nat), w.heap[k]? = some (.cells cs t fr) → t = 120 ∨ t = 118 → w'.heap[k]? = some (.cells cs t fr)
theorem KeepC.of_upd {w w' : World} (h : Upd [] w w') : KeepC w w' := fun k cs t fr hk _ => (h.block k (Array.getElem?_eq_some_iff.1 hk).1 (by simp)).trans hk
theorem KeepC.trans {a b c : World} (h : KeepC a b) (k : KeepC b c) : KeepC a c := fun i cs t fr hi ht => k i cs t fr (h i cs t fr hi ht) ht
theorem KeepC.of_ints {w w' : World} {b : Nat} {cs : List Value} (hB : Blk w b cs 3) (h : Upd [b] w w') : KeepC w w' := fun k ds t fr hk ht => by
  refine (h.block k (Array.getElem?_eq_some_iff.1 hk).1 (fun hm => ?_)).trans hk
  have e : k = b := by simpa using hm
  subst e
  unfold Blk at hB
  rw [hB] at hk
  simp at hk
  rcases ht with rfl | rfl
  · exact absurd hk.2.1 (by decide)
  · exact absurd hk.2.1 (by decide)
theorem CoinAt.keep {w w' : World} (hk : KeepC w w') : ∀ {c : Coin} {p : Value}, CoinAt w p c → CoinAt w' p c
  | .leaf wt s, p, h => by
    obtain ⟨b, rfl, hB⟩ := h
    exact ⟨b, rfl, hk b _ _ _ hB (.inl rfl)⟩
  | .pack a c, p, h => by
    obtain ⟨b, g, i, cap, pa, pc, arr, fr, rfl, hB, hg, h1, h2, h3, h4⟩ := h
    exact ⟨b, g, i, cap, pa, pc, arr, fr, rfl, hk b _ _ _ hB (.inl rfl), hk g _ _ _ hg (.inr rfl), h1, h2, CoinAt.keep hk h3, CoinAt.keep hk h4⟩
theorem CoinAt.upd {w w' : World} (h : Upd [] w w') {c : Coin} {p : Value} (hc : CoinAt w p c) : CoinAt w' p c := hc.keep (KeepC.of_upd h)
theorem CoinAt.head {w : World} {c : Coin} {p : Value} (h : CoinAt w p c) : ∃ b u v, p = .pointer (some ⟨b, 0, none⟩) ∧ Blk w b [.int .i64 (c.w : Nat), u, v] 120 := by
  cases c with
  | leaf wt s => obtain ⟨b, rfl, hB⟩ := h; exact ⟨b, _, _, rfl, hB⟩
  | pack a c => obtain ⟨b, g, i, cap, pa, pc, arr, fr, rfl, hB, _⟩ := h; exact ⟨b, _, _, rfl, hB⟩
/-- Values that lead to coins. -/
def CoinsAt (w : World) (ps : List Value) (cs : List Coin) : Prop := ps.length = cs.length ∧ ∀ (i : Nat) (p : Value) (c : Coin), ps[i]? = some p → cs[i]? = some c → CoinAt w p c
theorem CoinsAt.nil (w : World) : CoinsAt w [] [] := ⟨rfl, fun i p c h => by simp at h⟩
theorem CoinsAt.keep {w w' : World} (hk : KeepC w w') {ps : List Value} {cs : List Coin} (h : CoinsAt w ps cs) : CoinsAt w' ps cs := ⟨h.1, fun i p c h1 h2 => (h.2 i p c h1 h2).keep hk⟩
theorem CoinsAt.upd {w w' : World} (hu : Upd [] w w') {ps : List Value} {cs : List Coin} (h : CoinsAt w ps cs) : CoinsAt w' ps cs := h.keep (KeepC.of_upd hu)
theorem CoinsAt.snoc {w : World} {ps : List Value} {cs : List Coin} {p : Value} {c : Coin} (h : CoinsAt w ps cs) (hc : CoinAt w p c) : CoinsAt w (ps ++ [p]) (cs ++ [c]) := by
  refine ⟨by simp [h.1], fun i q d h1 h2 => ?_⟩
  by_cases hi : i < ps.length
  · rw [List.getElem?_append_left hi] at h1
    rw [List.getElem?_append_left (by rw [← h.1]; exact hi)] at h2
    exact h.2 i q d h1 h2
  · rw [List.getElem?_append_right (by omega)] at h1
    rw [List.getElem?_append_right (by rw [← h.1]; omega), ← h.1] at h2
    cases hk : i - ps.length with
    | zero => rw [hk] at h1 h2; simp at h1 h2; subst h1 h2; exact hc
    | succ k => rw [hk] at h1; simp at h1
theorem CoinsAt.drop {w : World} {ps : List Value} {cs : List Coin} (h : CoinsAt w ps cs) (n : Nat) : CoinsAt w (ps.drop n) (cs.drop n) :=
  ⟨by simp [h.1], fun i p c h1 h2 => h.2 (n + i) p c (by rw [← List.getElem?_drop]; exact h1) (by rw [← List.getElem?_drop]; exact h2)⟩
theorem CoinsAt.append {w : World} {ps qs : List Value} {cs ds : List Coin} (h : CoinsAt w ps cs) (k : CoinsAt w qs ds) : CoinsAt w (ps ++ qs) (cs ++ ds) := by
  refine ⟨by simp [h.1, k.1], fun i q d h1 h2 => ?_⟩
  by_cases hi : i < ps.length
  · rw [List.getElem?_append_left hi] at h1
    rw [List.getElem?_append_left (by rw [← h.1]; exact hi)] at h2
    exact h.2 i q d h1 h2
  · rw [List.getElem?_append_right (by omega)] at h1
    rw [List.getElem?_append_right (by rw [← h.1]; omega), ← h.1] at h2
    exact k.2 _ q d h1 h2
theorem less_any (p q : Value) (c d : Coin) (w : World) (hc : CoinAt w p c) (hd : CoinAt w q d) :
    Calls Try.prog 75 #[p, q] w fun e w' => e = .returned (.bool (decide (c.w < d.w))) ∧ Upd [] w w' := by
  obtain ⟨b1, u1, v1, rfl, hB1⟩ := hc.head
  obtain ⟨b2, u2, v2, rfl, hB2⟩ := hd.head
  have c1 := hB1.cell 0 rfl
  have c2 := hB2.cell 0 rfl
  generalize c.w = m at *
  generalize d.w = n at *
  clear hB1 hB2 hc hd
  have hdd : decide ((m : Int) < (n : Int)) = decide (m < n) := by
    by_cases h : m < n
    · rw [decide_eq_true h, decide_eq_true (by omega)]
    · rw [decide_eq_false h, decide_eq_false (by omega)]
  have HDD := Lib.hid hdd
  clear hdd
  go_enter Try.func75, Try.ntmps75
  go_wp2
  go_quiet (fail)
  go_wp2
  go_ret
  exact ⟨by first | rfl | rw [HDD.out] | (simp; done), (Upd.refl _ _).drewN _⟩
theorem infoCp : (Try.prog.info? 118).map (fun i => (i.zero, i.size, i.bytes)) = some (some (.pointer none), 1, 8) := by kernel_rfl
/-- A row of the call's own: fresh. -/
def OwnC (w0 w : World) (v : Value) (xs : List Value) : Prop := Row w 118 1 v xs.length xs ∧ ∀ k, v.ownBlock = some k → w0.heap.size ≤ k
theorem OwnC.nil (w0 w : World) : OwnC w0 w (.slice none 0 0) [] := ⟨Row.nil _ _ _, fun k h => by cases h⟩
theorem OwnC.upd {w0 w w' : World} {v : Value} {xs : List Value} (h : OwnC w0 w v xs) (hu : Upd [] w w') : OwnC w0 w' v xs := ⟨h.1.upd hu (by simp), h.2⟩
theorem OwnC.app {w0 w w' : World} {v v' : Value} {xs ys : List Value} (h : OwnC w0 w v xs) (hu : Upd [] w0 w) (hR : Row w' 118 1 v' (xs.length + ys.length) (xs ++ ys)) (hU : Upd v.ownBlock.toList w w') (hT : Later w v v') :
    OwnC w0 w' v' (xs ++ ys) ∧ Upd [] w0 w' := by
  refine ⟨⟨by rw [List.length_append]; exact hR, fun k hk => ?_⟩, hu.trans hU (fun k hk => .inr (h.2 k (by simpa using hk)))⟩
  rcases hT with h1 | ⟨g, h1, h2⟩
  · exact h.2 k (by rw [← h1]; exact hk)
  · rw [h1] at hk; simp at hk h2; have := hu.size; omega
theorem OwnC.form {w0 w : World} {v : Value} {xs : List Value} (h : OwnC w0 w v xs) : ∃ a c, v = .slice a xs.length c := h.1.form
set_option maxRecDepth 100000 in
set_option maxHeartbeats 3200000 in
theorem growNil_any (n : Nat) (w : World) (h0 : 0 < n) (hn : n ≤ 1000000) :
    Calls Try.prog 130 #[.slice none 0 0, .int .i64 (n : Nat)] w fun e w' => ∃ v, e = .returned v ∧ OwnC w w' v [] ∧ Upd [] w w' ∧ ∃ g c, v = .slice (some ⟨g, 0, none⟩) 0 c := by
  obtain ⟨i0, hi, hz0, hz1, hz2⟩ := info_parts infoCp
  have hold : (Builtin.firstCells i0.size 0 (.slice none 0 0)).run Try.prog w.drew = .ok ([] : List Value).toArray w.drew := run_firstCells_none w.drew i0.size 0 0 0
  have hGn := grownCap_ge w n 0 118
  have hGm := grownCap_le_maxLen w n 0 118 (by unfold maxLen; omega)
  obtain ⟨Z, hZ⟩ : ∃ Z, ([] : List Value).toArray ++ Builtin.zeroCells (Value.pointer none).cells n ++ Builtin.zeroCells (Value.pointer none).cells (grownCap w n 0 118 - n) = Z := ⟨_, rfl⟩
  have hrz : ∀ ty, (Builtin.append_ #[117, 3] ty #[.slice none 0 0, .int .i64 (n : Int)]).run Try.prog w =
      .ok (.slice (some ⟨w.heap.size, 0, none⟩) n (grownCap w n 0 118)) ((w.alloc (.cells Z 118)).drew) := fun ty => by
    have h := Lib.run_append_grow_zeros (P := Try.prog) w 117 3 ty 118 i0 (.pointer none) .i64 .i64 Try.underlying117 Try.underlying3 hi hz0 none 0 0 [] hold n (by omega) (by omega) (by omega) (by omega) (by rw [hz2]; omega) (by rw [hz2]; exact growslice_fits (by omega) (by omega))
    rw [Nat.zero_add, hZ] at h
    exact h
  have hZs : Z.size = grownCap w n 0 118 := by
    rw [← hZ]
    simp [Builtin.zeroCells, Value.cells]
    omega
  clear hZ
  generalize grownCap w n 0 118 = G at *
  have HE : Hid (OwnC w ((w.alloc (.cells Z 118)).drew) (.slice (some ⟨w.heap.size, 0, none⟩) 0 G) []) := Lib.hid
    ⟨⟨rfl, .inr ⟨w.heap.size, G, Z, rfl, Nat.zero_le _, heap_alloc_new w _, Nat.zero_le _, hGm, by rw [hZs, Nat.mul_one], rfl⟩⟩, fun k hk => by simp [Value.ownBlock] at hk; omega⟩
  clear hZs
  unfold maxLen at hGm
  have hnz : ¬ (n : Int) < 0 := by omega
  have hnp : (0 : Int) < (n : Int) := by omega
  clear hold hi hz0 hz1 hz2
  go_enter Try.func130, Try.ntmps130
  go_wp2_with (at_builtin; refine Lib.wpList_append_run _ rfl _ _ _ _ rfl _ _ rfl rfl _ _ (hrz _) ?_)
  go_ret
  exact ⟨_, rfl, HE.out, ((Upd.refl _ _).alloc _).drew, _, _, rfl⟩
end Go.Proofs.Ytdehkaknbmbieaa

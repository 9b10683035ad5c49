/- Law 05: same: its walk; lives. -/
import Derived.Test.YtdehkaknbmbieaaLOf
import Derived.Test.YtdehkaknbmbieaaRUsed
namespace Go.Proofs.Ytdehkaknbmbieaa
set_option linter.unusedVariables false
set_option linter.unusedSimpArgs false
set_option linter.unusedSectionVars false
open Go.RowKit
set_option linter.unusedVariables false
set_option linter.unusedSimpArgs false

/-- A row of numbers, as integers. -/
def ints (l : List Nat) : List Int := l.map fun x : Nat => (x : Int)
theorem ints_inj {a b : List Nat} : ints a = ints b ↔ a = b := by
  unfold ints
  constructor
  · intro h
    exact List.map_inj_right (fun x y h => by omega) |>.1 h
  · intro h; rw [h]
theorem IntsIn.row {w : World} {t : TypeId} {a : Option Addr} {k c : Nat} {l : List Nat} (h : Row w t 1 (.slice a k c) k (i64s l)) (hb : ∀ x ∈ l, x ≤ 9223372036854775807) : IntsIn w a k (ints l) := by
  have hl : l.length = k := by have := h.len; rw [length_i64s] at this; omega
  refine ⟨by simp [ints, hl], fun i hi => ?_⟩
  have hi2 : i < l.length := by simpa [ints] using hi
  obtain ⟨g, cc, e, _, _⟩ := h.form' (by omega)
  cases e
  have hx := hb _ (List.getElem_mem hi2)
  refine ⟨g, 0, rfl, ?_, by simp [ints] <;> omega, by simp [ints] <;> omega⟩
  rw [Nat.zero_add, h.cell i (u := .int .i64 (l[i] : Nat)) (by simp [i64s, hi2])]
  simp [ints]
theorem OwnX.ints {w0 w : World} {t : TypeId} {v : Value} {l : List Nat} (h : OwnX w0 w t v (i64s l)) (hb : ∀ x ∈ l, x ≤ 9223372036854775807) : ∃ a c, v = .slice a l.length c ∧ IntsIn w a l.length (ints l) := by
  obtain ⟨a, c, rfl⟩ := h.form
  have h1 := h.1
  rw [length_i64s] at h1 ⊢
  exact ⟨a, c, rfl, IntsIn.row h1 hb⟩
theorem IntsIn.blk {w : World} {b n : Nat} {t : TypeId} {l : List Nat} (h : Blk w b (i64s l) t) (hn : l.length = n) (hb : ∀ x ∈ l, x ≤ 9223372036854775807) : IntsIn w (some ⟨b, 0, none⟩) n (ints l) := by
  refine ⟨by simp [ints, hn], fun i hi => ?_⟩
  have hi2 : i < l.length := by simpa [ints] using hi
  have hx := hb _ (List.getElem_mem hi2)
  refine ⟨b, 0, rfl, ?_, by simp [ints] <;> omega, by simp [ints] <;> omega⟩
  rw [Nat.zero_add, h.cell i (v := .int .i64 (l[i] : Nat)) (by simp [i64s, hi2])]
  simp [ints]
def SameP (l1 l2 : List Int) (w : World) (e : Ending) (w' : World) : Prop := e = .returned (.bool (decide (l1 = l2))) ∧ Upd [] w w'
set_option maxRecDepth 100000 in
set_option maxHeartbeats 6400000 in
theorem same_any (l1 l2 : List Int) (a1 a2 : Option Addr) (n1 n2 c1 c2 : Nat) (w : World) (h1 : IntsIn w a1 n1 l1) (h2 : IntsIn w a2 n2 l2) (hn : n1 ≤ 1000000) (hn2 : n2 ≤ 9223372036854775807) :
    Calls Try.prog 13 #[.slice a1 n1 c1, .slice a2 n2 c2] w fun e w' => SameP l1 l2 w e w' := by
  have H1 := Lib.hid h1
  have H2 := Lib.hid h2
  have HL1 := Lib.hid h1.len
  have HL2 := Lib.hid h2.len
  clear h1 h2
  by_cases hne : n1 = n2
  · subst hne
    go_enter Try.func13, Try.ntmps13
    go_wp2
    go_loopg [13] 1000000 (fun gg s13 wr => ∃ i : Nat, i ≤ n1 ∧ gg = 1000000 - i ∧ s13 = .int .i64 (i : Nat) ∧ Hid (∀ j, j < i → l1[j]? = l2[j]?) ∧ Hid (Upd [] w wr))
    case atStart => exact ⟨0, by omega, rfl, rfl, Lib.hid (fun j hj => by omega), Lib.hid (Upd.refl _ _)⟩
    case round =>
      obtain ⟨i, hin, rfl, rfl, HE, HU⟩ := hrel
      by_cases hc : i < n1
      · have hcz : (i : Int) < (n1 : Int) := by omega
        have hi1 : i < l1.length := by rw [HL1.out]; exact hc
        have hi2 : i < l2.length := by rw [HL2.out]; exact hc
        obtain ⟨b, off, rfl, hc1, _, _⟩ := (H1.out.pure HU.out).cell i hi1
        obtain ⟨b', off', rfl, hc2, _, _⟩ := (H2.out.pure HU.out).cell i hi2
        have HG1 : Hid (l1[i]? = some l1[i]) := Lib.hid (List.getElem?_eq_getElem hi1)
        have HG2 : Hid (l2[i]? = some l2[i]) := Lib.hid (List.getElem?_eq_getElem hi2)
        generalize l1[i] = x at *
        generalize l2[i] = y at *
        have hw1 : IntKind.i64.wrap ((i : Int) + 1) = ((i + 1 : Nat) : Int) := by rw [IntWalk.i64_in _ (by omega)]; rfl
        clear hi1 hi2
        by_cases hxy : x = y
        · subst hxy
          go_wp2
          go_quiet (fail)
          go_wp2
          go_roundg (1000000 - (i + 1))
          · exact ⟨i + 1, by omega, rfl, by first | rfl | go_num, Lib.hid (fun j hj => by
              by_cases e : j = i
              · subst e; rw [HG1.out, HG2.out]
              · exact HE.out j (by omega)), Lib.hid (HU.out.drewN _)⟩
          · omega
        · go_wp2
          go_quiet (fail)
          go_wp2
          go_ret
          refine ⟨?_, HU.out.drewN _⟩
          have : ¬ l1 = l2 := fun e => by
            have h1 := HG1.out
            rw [e, HG2.out] at h1
            exact hxy (by injection h1 with h1; exact h1.symm)
          rw [decide_eq_false this]
          rfl
      · have hcz : ¬ (i : Int) < (n1 : Int) := by omega
        obtain rfl : i = n1 := by omega
        go_wp2
        go_ret
        refine ⟨?_, HU.out⟩
        have : l1 = l2 := List.ext_getElem? (fun j => by
          by_cases hj : j < i
          · exact HE.out j hj
          · rw [List.getElem?_eq_none (by rw [HL1.out]; omega), List.getElem?_eq_none (by rw [HL2.out]; omega)])
        rw [decide_eq_true this]
        rfl
  · have hnz : ¬ (n1 : Int) = (n2 : Int) := by omega
    go_enter Try.func13, Try.ntmps13
    go_wp2
    go_ret
    refine ⟨?_, Upd.refl _ _⟩
    have : ¬ l1 = l2 := fun e => hne (by rw [← HL1.out, ← HL2.out, e])
    rw [decide_eq_false this]
    rfl
theorem srt112 : [0, 1, 2].Pairwise (Ahead [1, 1, 2]) := by
  have h1 : nearN 1 = 1 := by unfold nearN; omega
  have h2 : nearN 2 = 2 := by unfold nearN; omega
  simp [Ahead, h1, h2]
theorem used112 {u : List Nat} (h : IsUsed [1, 1, 2] 3 u) : u = [0, 1, 2] := by
  refine h.uniq ⟨fun i => ?_, ?_⟩
  · constructor
    · intro hi
      simp at hi
      rcases hi with rfl | rfl | rfl <;> exact ⟨by omega, by decide⟩
    · rintro ⟨hi, _⟩
      simp
      omega
  · exact srt112
theorem len112 : ofL [1, 1, 2] [0, 1, 2] 15 3 = [2, 2, 1] := by
  obtain ⟨_, c, h1, h2, h3, h4, _⟩ := len_fit [1, 1, 2] [0, 1, 2] 15 srt112 (by decide) (by decide)
  have b0 := h1 0 (by decide)
  have b1 := h1 1 (by decide)
  have b2 := h1 2 (by decide)
  have f0 := h2 0 1 (by omega)
  have f1 := h2 1 2 (by omega)
  have e0 := h4 0 (by decide)
  have e1 := h4 1 (by decide)
  have e2 := h4 2 (by decide)
  change sumN 3 _ = _ at h3
  rw [sumN_succ, sumN_succ, sumN_succ, sumN_zero] at h3
  dsimp only [List.getElem_cons_zero, List.getElem_cons_succ] at e0 e1 e2
  generalize c 0 = x at *
  generalize c 1 = y at *
  generalize c 2 = z at *
  have hz : z = 1 := by
    rcases Nat.lt_or_ge z 2 with h | h
    · omega
    · have p0 : 2 ^ (15 - x) ≤ 2 ^ 13 := Nat.pow_le_pow_right (by omega) (by omega)
      have p1 : 2 ^ (15 - y) ≤ 2 ^ 13 := Nat.pow_le_pow_right (by omega) (by omega)
      have p2 : 2 ^ (15 - z) ≤ 2 ^ 13 := Nat.pow_le_pow_right (by omega) (by omega)
      omega
  subst hz
  have hy : y = 2 := by
    rcases Nat.lt_or_ge y 3 with h | h
    · rcases Nat.lt_or_ge y 2 with h' | h'
      · have : y = 1 := by omega
        subst this
        have : 0 < 2 ^ (15 - x) := Nat.pow_pos (by omega)
        omega
      · omega
    · have p0 : 2 ^ (15 - x) ≤ 2 ^ 12 := Nat.pow_le_pow_right (by omega) (by omega)
      have p1 : 2 ^ (15 - y) ≤ 2 ^ 12 := Nat.pow_le_pow_right (by omega) (by omega)
      omega
  subst hy
  have hx : x = 2 := by
    rcases Nat.lt_or_ge x 3 with h | h
    · omega
    · have p0 : 2 ^ (15 - x) ≤ 2 ^ 12 := Nat.pow_le_pow_right (by omega) (by omega)
      omega
  subst hx
  unfold ofL
  rw [if_neg (by decide)]
  simp [List.range_succ, e0, e1, e2]
def LivesP (w : World) (e : Ending) (w' : World) : Prop := e = .returned (.bool true) ∧ Upd [] w w'
set_option maxRecDepth 100000 in
set_option maxHeartbeats 6400000 in
theorem lives_any (w : World) : Calls Try.prog 10 #[] w fun e w' => LivesP w e w' := by
  have hB := Blk.new w [.int .i64 1, .int .i64 1, .int .i64 2] 3
  have hI : IntsIn (w.alloc (.cells #[.int .i64 1, .int .i64 1, .int .i64 2] 3)) (some ⟨w.heap.size, 0, none⟩) 3 [1, 1, 2] := IntsIn.blk (l := [1, 1, 2]) hB rfl (by decide)
  have HO := Lib.hid (of_any [1, 1, 2] (some ⟨w.heap.size, 0, none⟩) 3 3 15 _ hI (by omega))
  clear hB hI
  go_enter Try.func10, Try.ntmps10
  go_wp2_with fail
  refine HO.out.mono ?_
  rintro e w1 ⟨v, u, rfl, hu, ho, hU⟩
  have hu2 := used112 hu
  subst hu2
  rcases ho with ⟨hb, _⟩ | ⟨_, ob, rfl, hle, hB⟩
  · exact absurd hb (by unfold OfBad; decide)
  · rw [show (15 : Int).toNat = 15 from rfl, len112] at hB
    have c0 := hB.cell 0 rfl
    have c1 := hB.cell 1 rfl
    have c2 := hB.cell 2 rfl
    have HU := Lib.hid (((Upd.refl [] w).alloc _).then hU)
    clear hB hu HO hU
    go_wp2
    go_ret
    exact ⟨rfl, HU.out⟩
end Go.Proofs.Ytdehkaknbmbieaa

/- slices.Clone of numbers; lens.Trim: their walks. -/
import Derived.Test.YtdehkaknbmbieaaSame
import Derived.Lib.SliceRun
namespace Go.Proofs.Ytdehkaknbmbieaa
set_option linter.unusedVariables false
set_option linter.unusedSimpArgs false
set_option linter.unusedSectionVars false
open Go.RowKit
set_option linter.unusedVariables false
set_option linter.unusedSimpArgs false

def CloneP (l : List Nat) (w : World) (e : Ending) (w' : World) : Prop := ∃ v, e = .returned v ∧ OwnX w w' 3 v (i64s l) ∧ Upd [] w w'
set_option maxRecDepth 100000 in
set_option maxHeartbeats 6400000 in
theorem clone_any (l : List Nat) (ad : Addr) (n c : Nat) (w : World) (hl : l.length = n) (hc : ∀ j u, (i64s l)[j]? = some u → w.cell? (ad.add j) = some u) (hn : n ≤ 1000000) :
    Calls Try.prog 55 #[.slice (some ad) n c] w fun e w' => CloneP l w e w' := by
  obtain ⟨i0, hi, hz0, hz1, hz2⟩ := info_parts infoInt
  have hnil : ∀ w, (binOp .eql 22 (.slice (some ad) n c) (.slice none 0 0)).run Try.prog w = .ok (.bool false) w := fun w => Lib.run_eql_slice_nil w 22 3 (some ad) n c 0 0 Try.underlying22
  go_enter Try.func55, Try.ntmps55
  have HL : Hid ((i64s l).length = n * 1) := Lib.hid (by rw [length_i64s, hl, Nat.mul_one])
  have HN : Hid (∀ j u, (i64s l)[j]? = some u → (w.alloc (.cells #[] 3)).cell? (ad.add j) = some u) := Lib.hid (fun j u hj => by
    have h7 := hc j u hj
    exact (((Upd.refl [] w).alloc (.cells #[] 3)).cell (World.block_lt_of_cell? w _ h7) (by simp)).trans h7)
  clear hl hc
  go_wp2_with (at_builtin; refine wpList_app _ rfl _ _ 22 rfl 3 i0 _ 1 8 Try.underlying22 hi hz0 hz1 hz2 rfl (by omega) (.slice (some ⟨w.heap.size, 0, none⟩) 0 0) 0 [] rfl (Row.new w [] 3 0 1 (by unfold maxLen; omega) rfl) ad n c (i64s l) rfl HL.out HN.out (i64s_one _) (by unfold maxLen; omega) (by omega) ?_)
  intro v5 w5 hR5 hU5 hT5
  have HR : Hid (OwnX w w5 3 v5 (i64s l)) := Lib.hid (by
    refine ⟨?_, fun k hk => ?_⟩
    · rw [HL.out, Nat.mul_one]
      exact hR5
    · rcases hT5 with h | ⟨g, h1, h2⟩
      · rw [hk] at h
        simp [Value.ownBlock] at h
        omega
      · rw [hk] at h1
        cases h1
        have := ((Upd.refl [] w).alloc (.cells #[] 3)).size
        omega)
  have HU : Hid (Upd [] w w5) := Lib.hid (((Upd.refl [] w).alloc (.cells #[] 3)).trans hU5 (fun k hk => by
    simp [Value.ownBlock] at hk
    exact .inr (by omega)))
  clear hR5 hU5 hT5
  go_wp2
  go_ret
  exact ⟨_, rfl, HR.out, HU.out⟩
/-- How many are left. -/
structure TrimO (l : List Nat) (least : Int) (n m : Nat) : Prop where
  le : m ≤ n
  zero : ∀ i, m ≤ i → i < n → l.getD i 0 = 0
  few : m = n ∨ least ≤ m
  last : m = 0 ∨ (m : Int) ≤ least ∨ l.getD (m - 1) 0 ≠ 0
def TrimP (l : List Nat) (least : Int) (n : Nat) (w : World) (e : Ending) (w' : World) : Prop := ∃ v m, e = .returned v ∧ TrimO l least n m ∧ OwnX w w' 3 v (i64s (l.take m)) ∧ Upd [] w w'
set_option maxRecDepth 100000 in
set_option maxHeartbeats 6400000 in
theorem trim_any (l : List Nat) (b off n c : Nat) (least : Int) (w : World) (hl : l.length = n) (hnc : n ≤ c) (hc : ∀ j, (h : j < l.length) → w.cell? ⟨b, off + j, none⟩ = some (.int .i64 (l[j] : Nat))) (hn : n ≤ 1000000) :
    Calls Try.prog 19 #[.slice (some ⟨b, off, none⟩) n c, .int .i64 least] w fun e w' => TrimP l least n w e w' := by
  have HC := Lib.hid hc
  have HLN := Lib.hid hl
  clear hc hl
  go_enter Try.func19, Try.ntmps19
  go_wp2
  go_loopg [5] 1000000 (fun gg s5 wr => ∃ m : Nat, m ≤ n ∧ gg = 1000000 - (n - m) ∧ s5 = .int .i64 (m : Nat) ∧ wr = w ∧ Hid (∀ i, m ≤ i → i < n → l.getD i 0 = 0) ∧ Hid (m = n ∨ least ≤ m))
  case atStart => exact ⟨n, by omega, by omega, rfl, rfl, Lib.hid (fun i h1 h2 => by omega), Lib.hid (.inl rfl)⟩
  case round =>
    obtain ⟨m, hmn, rfl, rfl, hwr, HZ, HF⟩ := hrel
    subst hwr
    have hfin : ∀ (HLa : Hid (m = 0 ∨ (m : Int) ≤ least ∨ l.getD (m - 1) 0 ≠ 0)), Calls Try.prog 55 #[.slice (some ⟨b, off, none⟩) m c] wr fun e w' => TrimP l least n wr e w' := fun HLa => by
      refine (clone_any (l.take m) ⟨b, off, none⟩ m c wr (by rw [List.length_take, HLN.out]; omega) (fun j u hj => ?_) (by omega)).mono ?_
      · rw [i64s, List.getElem?_map] at hj
        obtain ⟨x, hx, rfl⟩ := Option.map_eq_some_iff.1 hj
        obtain ⟨hj1, rfl⟩ := List.getElem?_eq_some_iff.1 hx
        rw [add_flat, List.getElem_take]
        exact HC.out j (by rw [List.length_take] at hj1; omega)
      · rintro e w' ⟨v, rfl, h1, h2⟩
        exact ⟨v, m, rfl, ⟨hmn, HZ.out, HF.out, HLa.out⟩, h1, h2⟩
    have HFIN := Lib.hid hfin
    clear hfin
    have hmc : (m : Int) ≤ (c : Int) := by omega
    have hm0 : (0 : Int) ≤ (m : Int) := by omega
    have hend : ∀ (HLa : Hid (m = 0 ∨ (m : Int) ≤ least ∨ l.getD (m - 1) 0 ≠ 0)), True := fun _ => trivial
    clear hend
    rcases Nat.eq_zero_or_pos m with h0 | h0
    · subst h0
      have HCL := Lib.hid (HFIN.out (Lib.hid (.inl rfl)))
      clear HFIN
      go_wp2_with fail
      refine HCL.out.mono ?_
      rintro e w' ⟨v, m, rfl, h1, h2, h3⟩
      have HA := Lib.hid (And.intro h1 (And.intro h2 h3))
      clear h1 h2 h3 HCL
      go_wp2
      go_ret
      exact ⟨v, m, rfl, HA.out.1, HA.out.2.1, HA.out.2.2⟩
    · have h0z : (0 : Int) < (m : Int) := by omega
      by_cases h1 : (m : Int) ≤ least
      · have HCL := Lib.hid (HFIN.out (Lib.hid (.inr (.inl h1))))
        clear HFIN
        have h1z : ¬ least < (m : Int) := by omega
        go_wp2_with fail
        refine HCL.out.mono ?_
        rintro e w' ⟨v, m, rfl, h1, h2, h3⟩
        have HA := Lib.hid (And.intro h1 (And.intro h2 h3))
        clear h1 h2 h3 HCL
        go_wp2
        go_ret
        exact ⟨v, m, rfl, HA.out.1, HA.out.2.1, HA.out.2.2⟩
      · have h1z : least < (m : Int) := by omega
        obtain ⟨p, rfl⟩ : ∃ p, m = p + 1 := ⟨m - 1, by omega⟩
        have hpl : p < l.length := by rw [HLN.out]; omega
        have hcp := HC.out p hpl
        have HG : Hid (l.getD p 0 = l[p]) := Lib.hid (by simp [List.getD_eq_getElem?_getD, hpl])
        generalize l[p] = x at *
        have hw1 : IntKind.i64.wrap (((p + 1 : Nat) : Int) - 1) = (p : Int) := by rw [IntWalk.i64_in _ (by omega)]; omega
        clear hpl
        by_cases hx : x = 0
        · subst hx
          clear HFIN
          go_wp2
          go_roundg (1000000 - (n - p))
          · exact ⟨p, by omega, rfl, by first | rfl | go_num, rfl, Lib.hid (fun i hi hin => by
              rcases Nat.lt_or_ge i (p + 1) with h | h
              · obtain rfl : i = p := by omega
                exact HG.out
              · exact HZ.out i h hin), Lib.hid (.inr (by omega))⟩
          · omega
        · have hxz : ¬ (x : Int) = 0 := by omega
          have HCL := Lib.hid (HFIN.out (Lib.hid (.inr (.inr (by rw [Nat.add_sub_cancel, HG.out]; exact hx)))))
          clear HFIN
          go_wp2_with fail
          refine HCL.out.mono ?_
          rintro e w' ⟨v, m, rfl, h1, h2, h3⟩
          have HA := Lib.hid (And.intro h1 (And.intro h2 h3))
          clear h1 h2 h3 HCL
          go_wp2
          go_ret
          exact ⟨v, m, rfl, HA.out.1, HA.out.2.1, HA.out.2.2⟩
end Go.Proofs.Ytdehkaknbmbieaa

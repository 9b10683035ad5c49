/- slices.Repeat of one integer; math/bits.Mul by one: walks. -/
import Derived.Test.YtdehkaknbmbieaaIntB
import Derived.Laws.CopyOwn
namespace Go.Proofs.Ytdehkaknbmbieaa
set_option linter.unusedVariables false
set_option linter.unusedSimpArgs false
set_option linter.unusedSectionVars false
open Go.RowKit
set_option linter.unusedVariables false

theorem mul64_one (y : Nat) (w : World) (hy : y < 4294967296) :
    Calls Try.prog 113 #[.int .u64 1, .int .u64 (y : Nat)] w fun e w' => e = .returned (.tuple #[.int .u64 0, .int .u64 (y : Nat)]) ∧ w = w' := by
  have hA : bits .and .u64 1 4294967295 = 1 := by rfl
  have hB : bits .and .u64 (y : Int) 4294967295 = (y : Int) := by
    have h1 : (BitVec.ofInt 64 (y : Int)).toNat = y := by
      rw [BitVec.ofInt_natCast, BitVec.toNat_ofNat]; exact Nat.mod_eq_of_lt (by omega)
    have h2 : (BitVec.ofInt 64 4294967295).toNat = 2 ^ 32 - 1 := by rfl
    show IntKind.u64.wrap ((BitVec.ofInt 64 (y : Int) &&& BitVec.ofInt 64 4294967295).toNat : Int) = _
    rw [BitVec.toNat_and, h1, h2, Nat.and_two_pow_sub_one_eq_mod, IntKind.wrap_u64]
    omega
  have hd : (y : Int) / 4294967296 = 0 := by omega
  have hw : IntKind.u64.wrap (y : Int) = (y : Int) := by rw [IntKind.wrap_u64]; omega
  have hz : IntKind.u64.wrap 0 = 0 := by rfl
  have hm : (1 : Int) * (y : Int) = (y : Int) := by omega
  have hB0 : bits .and .u64 0 4294967295 = 0 := by rfl
  go_enter Try.func113, Try.ntmps113
  go_wp2
  go_returns
  exact ⟨rfl, rfl⟩
theorem mul_one (y : Nat) (w : World) (hy : y < 4294967296) :
    Calls Try.prog 80 #[.int .u64 1, .int .u64 (y : Nat)] w fun e w' => e = .returned (.tuple #[.int .u64 0, .int .u64 (y : Nat)]) ∧ w = w' := by
  go_enter Try.func80, Try.ntmps80
  go_wp2_with fail
  refine (mul64_one y w hy).mono ?_
  rintro e w' ⟨rfl, rfl⟩
  go_wp2
  go_returns
  exact ⟨rfl, rfl⟩
theorem replicate_snoc {α : Type} (n : Nat) (v : α) : List.replicate (n + 1) v = List.replicate n v ++ [v] := by
  rw [List.replicate_succ']
theorem rep_splice {α : Type} (n k m : Nat) (v z : α) (h : k ≤ m) : splice (List.replicate n v ++ List.replicate m z) n (List.replicate k v) = List.replicate (n + k) v ++ List.replicate (m - k) z := by
  unfold splice
  rw [List.length_replicate, List.take_left' (by simp), ← List.append_assoc, List.replicate_append_replicate, List.drop_append, List.length_replicate]
  simp
theorem Row.blk {w : World} {e : TypeId} {g n : Nat} {xs : List Value} (h : Row w e 1 (.slice (some ⟨g, 0, none⟩) n n) n xs) : Blk w g xs e := by
  rcases h.2 with h2 | ⟨g', cap, cur, hv, hb, hg, hle, hmx, hcs, hr⟩
  · cases h2.1
  · cases hv
    unfold Blk
    rw [hg, ← hr, ← hcs, List.take_of_length_le (by simp), Array.toArray_toList]
theorem Blk.row {w : World} {e : TypeId} {g : Nat} {xs : List Value} (h : Blk w g xs e) (n : Nat) (hn : xs.length = n) (hm : n ≤ maxLen) : Row w e 1 (.slice (some ⟨g, 0, none⟩) n n) n xs :=
  ⟨by omega, .inr ⟨g, n, xs.toArray, rfl, Nat.zero_le _, h, Nat.le_refl _, hm, by simp [hn], by rw [Nat.mul_one, List.take_of_length_le (by simp [hn])]⟩⟩
set_option maxRecDepth 100000 in
set_option maxHeartbeats 1600000 in
theorem repeat_one (g0 off c0 n : Nat) (v : Int) (w : World) (hc : w.cell? ⟨g0, off, none⟩ = some (.int .i64 v)) (hn1 : 1 ≤ n) (hn : n ≤ 1000) :
    Calls Try.prog 54 #[.slice (some ⟨g0, off, none⟩) 1 c0, .int .i64 (n : Nat)] w fun e w' => e = .returned (.slice (some ⟨w.heap.size, 0, none⟩) n n) ∧
      Row w' 3 1 (.slice (some ⟨w.heap.size, 0, none⟩) n n) n (List.replicate n (.int .i64 v)) ∧ Upd [] w w' ∧ w.heap.size < w'.heap.size := by
  obtain ⟨i0, hi0, hz0, hz1, hz2⟩ := info_parts infoInt
  have hsz : (Try.prog.info? 3).map (·.size) = some 1 := by rw [hi0]; simp [hz1]
  have hM := Lib.hid (mul_one n w (by omega))
  have hg0 : g0 < w.heap.size := World.block_lt_of_cell? w _ hc
  have hnn : decide ((n : Int) < 0) = false := decide_eq_false (by omega)
  have hnm : decide (9223372036854775807 < (n : Int)) = false := decide_eq_false (by omega)
  have hw1 : IntKind.u64.wrap (n : Int) = (n : Int) := by rw [IntKind.wrap_u64]; omega
  have hw2 : IntKind.i64.wrap (n : Int) = (n : Int) := IntWalk.i64_in _ (by omega)
  go_enter Try.func54, Try.ntmps54
  go_wp2_with fail
  refine hM.out.mono ?_
  rintro e w1 ⟨rfl, rfl⟩
  go_upto_region 7 with (refine wpList_mk _ rfl _ _ 22 rfl 3 i0 _ Try.underlying22 hi0 hz0 hz1 rfl .i64 .i64 _ _ n rfl rfl rfl rfl (by rw [hz2]; omega) (by unfold maxLen; omega) ?_; intro w2 hR2 hU2 hs2)
  have hB2 := hR2.blk
  have hb2 := hU2.below
  obtain ⟨m, rfl⟩ : ∃ m, n = m + 1 := ⟨n - 1, by omega⟩
  have hmin : [Value.int .i64 v].length = Nat.min 1 (m + 1) := by simp
  have hc2 : w2.cell? ⟨g0, off, none⟩ = some (.int .i64 v) := (hU2.at hg0 (by simp) off).trans hc
  have hsrc : 0 < [Value.int .i64 v].length → some (⟨w.heap.size, 0, none⟩ : Addr) = some ⟨w.heap.size, 0, none⟩ ∧ ∃ ad, some (⟨g0, off, none⟩ : Addr) = some ad ∧ ∀ j u, [Value.int .i64 v][j]? = some u → w2.cell? (ad.add j) = some u := fun _ => ⟨rfl, _, rfl, fun j u hj => by
    cases j with
    | zero => cases hj; exact hc2
    | succ j => cases hj⟩
  obtain ⟨Z, hZ⟩ : ∃ Z, Z = List.replicate (m + 1) (Value.int .i64 0) := ⟨_, rfl⟩
  rw [← hZ] at hB2
  have hZ' := Lib.hid hZ
  have hZl : Z.length = m + 1 := by rw [hZ]; simp
  clear hZ hR2 hU2
  go_wp2_with ((with_reducible show wpList _ _ _ _ _ _); refine wpList_copy_splice rfl (.tmp 31) (.tmp 32) 22 22 rfl 3 Try.underlying22 hsz _ _ (m + 1) (m + 1) 1 c0 rfl rfl w.heap.size 0 Z 3 hB2 [.int .i64 v] hmin hsrc (by simp; omega) (by simp [Value.oneCell']) w.heap.size w hb2 (Nat.le_refl _) ?_; intro w3 hg3 hb3)
  have hB3 : Blk w3 w.heap.size (List.replicate 1 (.int .i64 v) ++ List.replicate m (.int .i64 0)) 3 := by
    have h := hg3.out
    rw [hZ'.out, show List.replicate (m + 1) (Value.int .i64 0) = List.replicate 0 (.int .i64 v) ++ List.replicate (m + 1) (.int .i64 0) by simp] at h
    have e := rep_splice 0 1 (m + 1) (Value.int .i64 v) (Value.int .i64 0) (by omega)
    rw [show [Value.int .i64 v] = List.replicate 1 (Value.int .i64 v) by rfl, e] at h
    exact h
  clear hg3 hM hsrc hc2 hmin hb2 hB2
  go_loopg [8] m (fun g s8 wr => ∃ k, k ≤ m ∧ g = m - k ∧ s8 = .int .i64 ((k : Int) + 1) ∧ Blk wr w.heap.size (List.replicate (k + 1) (.int .i64 v) ++ List.replicate (m - k) (.int .i64 0)) 3 ∧ Below w.heap.size w wr)
  case atStart => exact ⟨0, by omega, rfl, rfl, hB3, hb3⟩
  case round =>
    obtain ⟨k, hkm, rfl, rfl, hB, hb⟩ := hrel
    by_cases hr : m = k
    · have hcz : ¬ ((k : Int) + 1 < (m : Int) + 1) := by omega
      subst hr
      go_wp2
      go_returns
      have hlt := hB.lt
      exact ⟨rfl, (by simpa using hB : Blk wr w.heap.size (List.replicate (m + 1) (.int .i64 v)) 3).row _ (by simp) (by unfold maxLen; omega), .of_below hb, hlt⟩
    · have hcz : (k : Int) + 1 < (m : Int) + 1 := by omega
      have hk0 : 0 ≤ (k : Int) + 1 := by omega
      obtain ⟨cur, hcur⟩ : ∃ cur, cur = List.replicate (k + 1) (Value.int .i64 v) ++ List.replicate (m - k) (Value.int .i64 0) := ⟨_, rfl⟩
      obtain ⟨cs, hcs⟩ : ∃ cs, cs = List.replicate (min (k + 1) (m - k)) (Value.int .i64 v) := ⟨_, rfl⟩
      have hl1 : cs.length = Nat.min (k + 1) (m - k) := by rw [hcs]; simp
      have hfit : k + 1 + cs.length ≤ cur.length := by rw [hcs, hcur]; simp; omega
      have hone : ∀ u ∈ cs, u.oneCell' = true := by intro u hu; rw [hcs] at hu; rw [(List.mem_replicate.1 hu).2]; rfl
      have hsrc : ∀ j u, cs[j]? = some u → wr.drew.cell? ((⟨w.heap.size, 0, none⟩ : Addr).add j) = some u := fun j u hj => by
        rw [hcs] at hj
        have hj' : j < min (k + 1) (m - k) := by have := (List.getElem?_eq_some_iff.1 hj).1; simpa using this
        have hu : u = .int .i64 v := by obtain ⟨h1, h2⟩ := List.getElem?_eq_some_iff.1 hj; rw [← h2]; simp
        have h := hB.cell j (v := .int .i64 v) (by rw [List.getElem?_append_left (by simp; omega), List.getElem?_replicate]; simp; omega)
        rw [hu]
        cases j with
        | zero => exact h
        | succ j => simpa [Addr.add] using h
      rw [← hcur] at hB
      have hBd : wr.drew.heap[w.heap.size]? = some (Obj.cells cur.toArray 3 (0, 0)) := hB
      have hbd := hb.drew
      have HC := Lib.hid hcur
      have HS := Lib.hid hcs
      have HL := Lib.hid hl1
      have HSRC := Lib.hid hsrc
      have HONE := Lib.hid hone
      have HB := Lib.hid hBd
      clear hcur hcs hl1 hsrc hone hB hBd
      have hl2 : cs.length ≤ 1000 := by have := HL.out; simp only [Nat.min_def] at this; split at this <;> omega
      go_wp2
      go_region_law ((refine step_copy_splice (by rfl) (.tmp 41) (.tmp 44) 22 22 (by rfl) 3 Try.underlying22 hsz (some ⟨w.heap.size, k + 1, none⟩) (some ⟨w.heap.size, 0, none⟩) (m - k) (m - k) (k + 1) (m + 1) (by simp [Act.put, Act.eval]) (by simp [Act.put, Act.eval]) w.heap.size (k + 1) cur 3 HB.out cs HL.out (fun _ => ⟨rfl, _, rfl, HSRC.out⟩) hfit HONE.out w.heap.size w hbd (Nat.le_refl _) ?_; intro w4 hg4 hb4))
      all_goals go_wp2
      all_goals (
        have hj := HL.out
        have hj1 : cs.length = min (k + 1) (m - k) := hj
        have hcs := HS.out
        rw [← hj1] at hcs
        have h4 := hg4.out
        rw [HC.out, hcs, rep_splice (k + 1) cs.length (m - k) (Value.int .i64 v) (Value.int .i64 0) (by omega), show k + 1 + cs.length = k + cs.length + 1 by omega, show m - k - cs.length = m - (k + cs.length) by omega] at h4)
      all_goals go_roundg (m - (k + cs.length))
      all_goals first
        | omega
        | (refine ⟨k + cs.length, by omega, rfl, by rw [show IntKind.i64.wrap ((k : Int) + 1 + (cs.length : Int)) = (k : Int) + 1 + (cs.length : Int) from IntWalk.i64_in _ (by omega)]; congr 1; omega, h4, hb4⟩)
end Go.Proofs.Ytdehkaknbmbieaa

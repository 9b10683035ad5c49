/- Package central: plain words; the closures of Write; attr. -/
import Derived.Test.YtibmhadnfggmlaaDoorGH
import Derived.Test.YtibmhadnfggmlaaDoorLocW
namespace Go.Proofs.YtibmhadnfggmlaaDoor
set_option linter.unusedVariables false
set_option linter.unusedSimpArgs false
set_option linter.unusedSectionVars false
open Go.RowKit
set_option linter.unusedVariables false

def attrP (k : Int) (md : Nat) : Nat := if k = 2 then (md + 16384) * 65536 + 16 else (md + 32768) * 65536
def cheadP (r : RecD) : List Nat := [80, 75, 1, 2, 20, 3, 20, 0, 0, 8] ++ (leP r.m.toNat 2 ++ (leP r.t 4 ++ (leP r.sum 4 ++ (leP r.l.toNat 4 ++ (leP r.wh.toNat 4 ++ (leP (nameP r.k r.p).length 2 ++ ([0, 0, 0, 0, 0, 0, 0, 0] ++ (leP (attrP r.k r.md.toNat) 4 ++ (leP r.pos.toNat 4 ++ nameP r.k r.p)))))))))
def cwriteP (r : RecD) : List Nat := if recErr r = 0 then cheadP r else []
theorem cheadP_len (r : RecD) : (cheadP r).length = 46 + (nameP r.k r.p).length := by simp [cheadP, leP_len]; omega
theorem cheadP_lt (r : RecD) : ∀ x ∈ cheadP r, x < 256 := by
  intro x hx
  simp only [cheadP, List.mem_append] at hx
  rcases hx with h | h | h | h | h | h | h | h | h | h | h
  · simp at h; omega
  all_goals first
    | exact leP_lt _ _ x h
    | exact nameP_lt _ _ x h
    | (simp at h; omega)
theorem cwriteP_lt (r : RecD) : ∀ x ∈ cwriteP r, x < 256 := by
  unfold cwriteP; split
  · exact cheadP_lt r
  · intro x hx; simp at hx
def flatN (k : Nat) (ns : List Nat) : List Nat := (ns.map fun n => leP n k).flatten
theorem flatN_len (k : Nat) : ∀ ns, (flatN k ns).length = ns.length * k
  | [] => by simp [flatN]
  | n :: r => by
    have := flatN_len k r
    unfold flatN at this ⊢
    rw [List.map_cons, List.flatten_cons, List.length_append, this, leP_len, List.length_cons, Nat.succ_mul]; omega
theorem flatN_snoc (k : Nat) (ns : List Nat) (n : Nat) : flatN k (ns ++ [n]) = flatN k ns ++ leP n k := by simp [flatN]
theorem flatN_cons (k : Nat) (ns : List Nat) (n : Nat) : flatN k (n :: ns) = leP n k ++ flatN k ns := by simp [flatN]
theorem flatN_nil (k : Nat) : flatN k [] = [] := rfl
def i64s (ns : List Nat) : List Value := ns.map fun x => .int .i64 (x : Nat)
set_option maxRecDepth 100000 in
set_option maxHeartbeats 1600000 in
theorem twos_any (B b g n : Nat) (l ns : List Nat) (w : World) (h : Wr B b l w) (hg : Blk w g (i64s ns) 3) (hgb : g ≠ b) (hns : ∀ x ∈ ns, x < 9223372036854775808) (hn : ns.length = n) (hn2 : n ≤ 100) (hlen : l.length ≤ 1000000) (hBw : B ≤ w.heap.size) :
    Calls Tryd.prog 95 #[.slice (some ⟨g, 0, none⟩) n n, .pointer (some ⟨b, 0, none⟩)] w fun e w' => e = .returned (.tuple #[]) ∧ Wr B b (l ++ flatN 2 ns) w' ∧ Below B w w' ∧ Kept b w w' := by
  have HG := Lib.hid hg
  have HN := Lib.hid hns
  have HL := Lib.hid hn
  clear hg hns hn
  go_enter Tryd.func95, Tryd.ntmps95
  go_wp2
  go_loopg [4, 7] n (fun gg s4 s7 wr => ∃ i, i ≤ n ∧ gg = n - i ∧ s7 = .int .i64 (i : Nat) ∧ Hid (Wr B b (l ++ flatN 2 (ns.take i)) wr ∧ Below B w wr ∧ Kept b w wr))
  case atStart => exact ⟨0, Nat.zero_le _, rfl, rfl, Lib.hid ⟨by rw [List.take_zero, flatN_nil, List.append_nil]; exact h, Below.refl _ _, Kept.refl _ _⟩⟩
  case round =>
    obtain ⟨i, hi, rfl, rfl, HW⟩ := hrel
    by_cases hc : i < n
    · have hcz : (i : Int) < (n : Int) := by omega
      have hil : i < ns.length := by rw [HL.out]; exact hc
      obtain ⟨v, hv⟩ : ∃ v, v = ns[i] := ⟨_, rfl⟩
      have hv1 : v < 9223372036854775808 := by rw [hv]; exact HN.out _ (List.getElem_mem hil)
      have c1 := (HW.out.2.2 g _ 3 hgb (by decide) HG.out).cell i (v := .int .i64 (v : Nat)) (by unfold i64s; rw [List.getElem?_map, List.getElem?_eq_getElem hil, ← hv]; rfl)
      have HT : Hid (ns.take (i + 1) = ns.take i ++ [v]) := Lib.hid (by rw [hv, List.take_succ_eq_append_getElem hil])
      have hlen2 : (l ++ flatN 2 (ns.take i)).length ≤ 100000000 := by rw [List.length_append, flatN_len, List.length_take]; omega
      have HC := Lib.hid (wNumK_any B b v 2 _ wr HW.out.1 (by omega) (by omega) hlen2 (by have := HW.out.2.1.size; omega))
      clear hv hlen2
      go_wp2_with fail
      refine HC.out.mono ?_
      rintro e w1 ⟨rfl, hW1, hL1, hK1⟩
      have HF : Hid (Wr B b (l ++ flatN 2 (ns.take (i + 1))) w1 ∧ Below B w w1 ∧ Kept b w w1) := Lib.hid ⟨by rw [HT.out, flatN_snoc, ← List.append_assoc]; exact hW1, HW.out.2.1.trans hL1, HW.out.2.2.trans hK1⟩
      clear hW1 hL1 hK1 HC HW
      go_wp2
      go_roundg (n - (i + 1))
      · exact ⟨i + 1, by omega, rfl, by first | rfl | go_num, HF⟩
      · omega
    · have hcz : ¬ (i : Int) < (n : Int) := by omega
      have h9 : i = n := by omega
      subst h9
      have HF : Hid (Wr B b (l ++ flatN 2 ns) wr ∧ Below B w wr ∧ Kept b w wr) := Lib.hid (by
        have := HW.out
        rwa [List.take_of_length_le (by rw [HL.out]; omega)] at this)
      clear HW
      go_wp2
      go_end0
      exact ⟨rfl, HF.out⟩
set_option maxRecDepth 100000 in
set_option maxHeartbeats 1600000 in
theorem fours_any (B b g n : Nat) (l ns : List Nat) (w : World) (h : Wr B b l w) (hg : Blk w g (i64s ns) 3) (hgb : g ≠ b) (hns : ∀ x ∈ ns, x < 9223372036854775808) (hn : ns.length = n) (hn2 : n ≤ 100) (hlen : l.length ≤ 1000000) (hBw : B ≤ w.heap.size) :
    Calls Tryd.prog 96 #[.slice (some ⟨g, 0, none⟩) n n, .pointer (some ⟨b, 0, none⟩)] w fun e w' => e = .returned (.tuple #[]) ∧ Wr B b (l ++ flatN 4 ns) w' ∧ Below B w w' ∧ Kept b w w' := by
  have HG := Lib.hid hg
  have HN := Lib.hid hns
  have HL := Lib.hid hn
  clear hg hns hn
  go_enter Tryd.func96, Tryd.ntmps96
  go_wp2
  go_loopg [4, 7] n (fun gg s4 s7 wr => ∃ i, i ≤ n ∧ gg = n - i ∧ s7 = .int .i64 (i : Nat) ∧ Hid (Wr B b (l ++ flatN 4 (ns.take i)) wr ∧ Below B w wr ∧ Kept b w wr))
  case atStart => exact ⟨0, Nat.zero_le _, rfl, rfl, Lib.hid ⟨by rw [List.take_zero, flatN_nil, List.append_nil]; exact h, Below.refl _ _, Kept.refl _ _⟩⟩
  case round =>
    obtain ⟨i, hi, rfl, rfl, HW⟩ := hrel
    by_cases hc : i < n
    · have hcz : (i : Int) < (n : Int) := by omega
      have hil : i < ns.length := by rw [HL.out]; exact hc
      obtain ⟨v, hv⟩ : ∃ v, v = ns[i] := ⟨_, rfl⟩
      have hv1 : v < 9223372036854775808 := by rw [hv]; exact HN.out _ (List.getElem_mem hil)
      have c1 := (HW.out.2.2 g _ 3 hgb (by decide) HG.out).cell i (v := .int .i64 (v : Nat)) (by unfold i64s; rw [List.getElem?_map, List.getElem?_eq_getElem hil, ← hv]; rfl)
      have HT : Hid (ns.take (i + 1) = ns.take i ++ [v]) := Lib.hid (by rw [hv, List.take_succ_eq_append_getElem hil])
      have hlen2 : (l ++ flatN 4 (ns.take i)).length ≤ 100000000 := by rw [List.length_append, flatN_len, List.length_take]; omega
      have HC := Lib.hid (wNumK_any B b v 4 _ wr HW.out.1 (by omega) (by omega) hlen2 (by have := HW.out.2.1.size; omega))
      clear hv hlen2
      go_wp2_with fail
      refine HC.out.mono ?_
      rintro e w1 ⟨rfl, hW1, hL1, hK1⟩
      have HF : Hid (Wr B b (l ++ flatN 4 (ns.take (i + 1))) w1 ∧ Below B w w1 ∧ Kept b w w1) := Lib.hid ⟨by rw [HT.out, flatN_snoc, ← List.append_assoc]; exact hW1, HW.out.2.1.trans hL1, HW.out.2.2.trans hK1⟩
      clear hW1 hL1 hK1 HC HW
      go_wp2
      go_roundg (n - (i + 1))
      · exact ⟨i + 1, by omega, rfl, by first | rfl | go_num, HF⟩
      · omega
    · have hcz : ¬ (i : Int) < (n : Int) := by omega
      have h9 : i = n := by omega
      subst h9
      have HF : Hid (Wr B b (l ++ flatN 4 ns) wr ∧ Below B w wr ∧ Kept b w wr) := Lib.hid (by
        have := HW.out
        rwa [List.take_of_length_le (by rw [HL.out]; omega)] at this)
      clear HW
      go_wp2
      go_end0
      exact ⟨rfl, HF.out⟩
theorem or_i64 (a b : Nat) (ha : a < 9223372036854775808) (hb : b < 9223372036854775808) : bits .or .i64 (a : Int) (b : Int) = ((a ||| b : Nat) : Int) := by
  show IntKind.i64.wrap ((BitVec.ofInt 64 (a : Int) ||| BitVec.ofInt 64 (b : Int)).toNat : Int) = _
  rw [BitVec.toNat_or, ofInt_nat 64 a (by omega), ofInt_nat 64 b (by omega)]
  exact IntWalk.i64_in _ (by have := Nat.or_lt_two_pow (n := 63) ha hb; omega)
theorem or_kind (m : Nat) (h : m ≤ 511) (k : Nat) (hk : k = 16384 ∨ k = 32768) : bits .or .i64 (m : Int) (k : Int) = ((m + k : Nat) : Int) := by
  rw [or_i64 _ _ (by omega) (by omega), Nat.or_comm]
  rcases hk with rfl | rfl
  · rw [show 16384 = 2 ^ 14 * 1 from rfl, ← Nat.two_pow_add_eq_or_of_lt (by omega), Nat.add_comm]
  · rw [show 32768 = 2 ^ 15 * 1 from rfl, ← Nat.two_pow_add_eq_or_of_lt (by omega), Nat.add_comm]
theorem or_dir (m : Nat) (h : m < 100000) : bits .or .i64 ((m * 65536 : Nat) : Int) 16 = ((m * 65536 + 16 : Nat) : Int) := by
  have := or_i64 (m * 65536) 16 (by omega) (by omega)
  rw [show ((16 : Nat) : Int) = 16 from rfl] at this
  rw [this, show m * 65536 = 2 ^ 16 * m by omega, ← Nat.two_pow_add_eq_or_of_lt (by omega)]
theorem kind_any (k : Int) (w : World) : Calls Tryd.prog 100 #[.int .i64 k] w fun e w' => e = .returned (.int .i64 (if k = 2 then 16384 else 32768)) ∧ w = w' := by
  by_cases h : k = 2
  · subst h
    go_enter Tryd.func100, Tryd.ntmps100
    go_wp2
    go_ret
    exact ⟨rfl, rfl⟩
  · have t1 : (k == 2) = false := by simpa using h
    go_enter Tryd.func100, Tryd.ntmps100
    go_wp2
    go_ret
    exact ⟨rfl, rfl⟩
end Go.Proofs.YtibmhadnfggmlaaDoor

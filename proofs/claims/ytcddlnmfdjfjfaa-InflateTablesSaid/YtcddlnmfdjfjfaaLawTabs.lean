/- The law swinglelaw08.InflateTables: its walk. -/
import Derived.Test.YtcddlnmfdjfjfaaTabs
import Derived.Test.YtcddlnmfdjfjfaaRefT
import Derived.Test.YtcddlnmfdjfjfaaLives8
namespace Go.Proofs.Ytcddlnmfdjfjfaa
open Go.RowKit
set_option linter.unusedVariables false

def tabA : Except Nat ((List Nat × List Nat) × Nat) → List Int
  | .ok ((A, _), _) => ints A
  | .error _ => []
def tabB : Except Nat ((List Nat × List Nat) × Nat) → List Int
  | .ok ((_, B), _) => ints B
  | .error _ => []
def tabW : Except Nat ((List Nat × List Nat) × Nat) → Nat
  | .ok _ => 0
  | .error c => c
theorem tabAB_len (s : ByteArray) (a : Nat) : (tabA (tablesP s a)).length ≤ 300 ∧ (tabB (tablesP s a)).length ≤ 300 := by
  cases h : tablesP s a with
  | error c => exact ⟨by simp [tabA], by simp [tabB]⟩
  | ok r =>
    obtain ⟨⟨A, B⟩, a'⟩ := r
    obtain ⟨_, h1, h2, _⟩ := tablesP_ok h
    unfold tabA tabB
    simp only [length_ints]
    omega
theorem IntsIn.none (w : World) : IntsIn w none ([] : List Int).length [] := ⟨rfl, fun i h => by simp at h⟩
/-- Where a row's cells lie: in blocks that are new since w. -/
def NewAt (w : World) (p : Option Addr) : Prop := ∀ b off, p = some ⟨b, off, none⟩ → w.heap.size ≤ b
theorem NewAt.none (w : World) : NewAt w none := fun b off e => by cases e

theorem tabs_com {b : Nat} {w : World} {s : ByteArray} {a : Nat} (hR : RdAt w b 89 s a false) (hs : s.size ≤ 1099511627776) :
    Calls Try.prog 42 #[.pointer (some ⟨b, 0, none⟩)] w fun e w' => ∃ pa ca pb cb, e = .returned (.tuple #[.slice pa (tabA (tablesP s a)).length ca, .slice pb (tabB (tablesP s a)).length cb, .int .i64 (tabW (tablesP s a) : Nat)]) ∧
      IntsIn w' pa (tabA (tablesP s a)).length (tabA (tablesP s a)) ∧ IntsIn w' pb (tabB (tablesP s a)).length (tabB (tablesP s a)) ∧ Upd [b] w w' ∧ NewAt w pa ∧ NewAt w pb := by
  cases h : tablesP s a with
  | error c =>
    refine (tabs_err hR hs h).mono ?_
    rintro e w' ⟨rfl, hU⟩
    exact ⟨none, 0, none, 0, rfl, IntsIn.none _, IntsIn.none _, hU, NewAt.none _, NewAt.none _⟩
  | ok r =>
    obtain ⟨⟨A, B⟩, a'⟩ := r
    refine (tabs_ok hR hs h).mono ?_
    rintro e w' ⟨g, cap, rfl, h1, h2, hU, hg⟩
    refine ⟨some ⟨g, 0, none⟩, cap, some ⟨g, A.length, none⟩, cap - A.length, ?_, ?_, ?_, hU, fun b off e => by cases e; exact hg, fun b off e => by cases e; exact hg⟩
    · unfold tabA tabB tabW; simp only [length_ints]; rfl
    · unfold tabA; simp only [length_ints]; exact h1
    · unfold tabB; simp only [length_ints]; exact h2
theorem xtab_com {bx br : Nat} {w : World} {s : ByteArray} {a : Nat} {O : ByteArray} {most : Nat} (h : XAt w bx br s 0 a O most) (hs : s.size ≤ 1099511627776) :
    Calls Try.prog 43 #[.pointer (some ⟨bx, 0, none⟩)] w fun e w' => ∃ pa ca pb cb a', e = .returned (.tuple #[.slice pa (tabA (tablesP s a)).length ca, .slice pb (tabB (tablesP s a)).length cb]) ∧
      IntsIn w' pa (tabA (tablesP s a)).length (tabA (tablesP s a)) ∧ IntsIn w' pb (tabB (tablesP s a)).length (tabB (tablesP s a)) ∧ Upd [bx, br] w w' ∧ XAt w' bx br s (tabW (tablesP s a)) a' O most := by
  refine (xtables_any bx br w s a O most h hs).mono ?_
  intro e w' hp
  cases hT : tablesP s a with
  | error c =>
    rw [hT] at hp
    obtain ⟨hU, rfl, a', hX⟩ := hp
    exact ⟨none, 0, none, 0, a', rfl, IntsIn.none _, IntsIn.none _, hU, hX⟩
  | ok r =>
    obtain ⟨⟨A, B⟩, a'⟩ := r
    rw [hT] at hp
    obtain ⟨hU, g, cap, rfl, h1, h2, hX, hg⟩ := hp
    refine ⟨some ⟨g, 0, none⟩, cap, some ⟨g, A.length, none⟩, cap - A.length, a', ?_, ?_, ?_, hU, hX⟩
    · unfold tabA tabB; simp only [length_ints]
    · unfold tabA; simp only [length_ints]; exact h1
    · unfold tabB; simp only [length_ints]; exact h2

set_option maxRecDepth 100000 in
set_option maxHeartbeats 6400000 in
theorem law_inflateTables (S : ByteArray) (Z : Nat) (x0 : Option Addr) (cap0 : Nat) (l : List Int) (w : World) (hS : S.size ≤ 9223372036854775807) (hZ : Z ≤ 18446744073709551615) (hl : l.length ≤ 9223372036854775807) (hI : IntsIn w x0 l.length l) :
    Calls Try.prog 10 #[.string S, .int .u64 (Z : Nat), .slice x0 l.length cap0] w fun e w' => e = .returned (.bool true) ∧ Upd [] w w' := by
  obtain ⟨N1, hN1⟩ : ∃ N1, N1 = min S.size 200 := ⟨_, rfl⟩
  have e1 : min (S.size : Int) 200 = (N1 : Int) := by omega
  have b1 : N1 ≤ S.size := by omega
  have b3 : N1 ≤ 200 := by omega
  have hT : (S.extract 0 N1).size = N1 := by rw [ByteArray.size_extract]; omega
  have HI := Lib.hid hI
  clear hN1 hI
  go_enter Try.func10, Try.ntmps10
  go_upto_region 2 with fail
  generalize S.extract 0 N1 = T at *
  have hTb : T.size ≤ 200 := by omega
  clear hT e1 b1 b3
  by_cases hlong : 300 < l.length
  · have t1 : decide ((300 : Int) < (l.length : Int)) = true := decide_eq_true (by omega)
    have t2 : decide (300 < l.length) = true := decide_eq_true hlong
    go_wp2_with fail
    refine (lives8_any w).mono ?_
    rintro e w1 ⟨rfl, hU1⟩
    go_wp2
    go_returns
    exact ⟨rfl, hU1⟩
  · have t1 : decide ((300 : Int) < (l.length : Int)) = false := decide_eq_false (by omega)
    have t2 : decide (300 < l.length) = false := decide_eq_false hlong
    have hl300 : l.length ≤ 300 := by omega
    obtain ⟨u, hu⟩ : ∃ u, u = Z % 8 := ⟨_, rfl⟩
    obtain ⟨k, hk⟩ : ∃ k, k = min u (8 * T.size) := ⟨_, rfl⟩
    have q1 : (Z : Int).tmod 8 = (u : Int) := by rw [Int.tmod_eq_emod_of_nonneg (by omega), hu]; omega
    have q1' : (Z : Int) % 8 = (u : Int) := by omega
    have hu8 : u < 8 := by omega
    have q2 : IntKind.i64.wrap (u : Int) = (u : Int) := IntWalk.i64_in _ (by omega)
    have q3 : IntKind.i64.wrap (8 * (T.size : Int)) = 8 * (T.size : Int) := IntWalk.i64_in _ (by omega)
    have q4 : min (u : Int) (8 * (T.size : Int)) = (k : Int) := by omega
    have hk8 : k < 8 := by omega
    have hkT : k ≤ 8 * T.size := by omega
    clear hu hk hlong
    go_wp2_with fail
    refine (read_any T w).mono ?_
    rintro e w1 ⟨rfl, rfl⟩
    go_upto_region 6 with fail
    obtain ⟨w2, hw2⟩ : ∃ w2, w2 = ((w.alloc (.cells #[.string T, .int .i64 0, .bool false] 89)).alloc (Obj.cells #[.string T, .int .i64 0, .bool false] 61)).alloc (Obj.cells #[.pointer (some ⟨w.heap.size + 1, 0, none⟩), .string ⟨#[]⟩, .int .i64 0, .int .i64 0] 74) := ⟨_, rfl⟩
    have hU2 : Upd [] w w2 := by rw [hw2]; exact (((Upd.refl [] w).alloc _).alloc _).alloc _
    have hRd : RdAt w2 w.heap.size 89 T 0 false := by
      rw [hw2]
      exact ((rd_new w T 89).upd (((Upd.refl [] _).alloc _)) (by simp)).upd ((Upd.refl [] _).alloc _) (by simp)
    have hX : XAt w2 (w.heap.size + 1 + 1) (w.heap.size + 1) T 0 0 ⟨#[]⟩ 0 := by
      have h1 := rd_new (w.alloc (.cells #[.string T, .int .i64 0, .bool false] 89)) T 61
      have h2 := Blk.new ((w.alloc (.cells #[.string T, .int .i64 0, .bool false] 89)).alloc (Obj.cells #[.string T, .int .i64 0, .bool false] 61)) [.pointer (some ⟨w.heap.size + 1, 0, none⟩), .string ⟨#[]⟩, .int .i64 0, .int .i64 0] 74
      rw [World.size_alloc] at h1
      rw [World.size_alloc, World.size_alloc] at h2
      rw [hw2]
      exact ⟨h2, by omega, ⟨false, h1.upd ((Upd.refl [] _).alloc _) (by simp), fun _ => rfl⟩, by omega⟩
    rw [← hw2]
    clear hw2
    have hI2 := HI.out.pure hU2
    have HI2 := Lib.hid hI2
    clear hI2 q1 q1' q2 q3 q4
    have HU2 := Lib.hid hU2
    clear hU2
    obtain ⟨B, hB⟩ : ∃ B, B = w.heap.size := ⟨_, rfl⟩
    rw [← hB] at hRd hX ⊢
    have HB := Lib.hid hB
    clear hB
    have eb : rdBad T 0 false (k : Nat) = false := by simp [rdBad]; omega
    have et : rdTo T 0 false (k : Nat) = k := by unfold rdTo; rw [eb]; simp
    have HR1 := rbits_read B (k : Nat) w2 T 0 false hRd (by omega)
    rw [eb, et] at HR1
    have HR1 := Lib.hid HR1
    go_wp2_with fail
    refine HR1.out.mono ?_
    rintro e w3 ⟨rfl, hRd3, hU3⟩
    have hX3 := hX.upd hU3 (by simp; omega) (by simp)
    obtain ⟨bad, hRr, hbad⟩ := hX3.rd
    have hbad := hbad rfl
    subst hbad
    have HR2 := rrbits_any (B + 1) (k : Nat) w3 T 0 false hRr (by omega)
    rw [eb, et] at HR2
    have HR2 := Lib.hid HR2
    have d0 := hX3.blk.cell 0 rfl
    go_wp2_with fail
    refine HR2.out.mono ?_
    rintro e w4 ⟨rfl, hRr4, hU4⟩
    have hX4 : XAt w4 (B + 1 + 1) (B + 1) T 0 k ⟨#[]⟩ 0 := ⟨hX3.blk.upd hU4 (by simp), by omega, ⟨false, hRr4, fun _ => rfl⟩, hkT⟩
    have hRd4 := hRd3.upd hU4 (by simp)
    have hU24 : Upd [B, B + 1] w2 w4 := (hU3.mono (by simp)).then (hU4.mono (by simp))
    clear hRd hX hRr hRr4 hRd3 hX3 hU3 hU4 d0 HR1 HR2 hbad
    obtain ⟨TP, hTP⟩ : ∃ TP, TP = tablesP T k := ⟨_, rfl⟩
    have HT1 := tabs_com hRd4 (by omega)
    have HT2 := fun (w5 : World) (h : XAt w5 (B + 1 + 1) (B + 1) T 0 k ⟨#[]⟩ 0) => xtab_com h (by omega)
    have hlen := tabAB_len T k
    rw [← hTP] at HT1 HT2 hlen
    have HT1 := Lib.hid HT1
    have HT2 := Lib.hid HT2
    clear hTP
    obtain ⟨lA, hlA⟩ : ∃ lA, tabA TP = lA := ⟨_, rfl⟩
    obtain ⟨lB, hlB⟩ : ∃ lB, tabB TP = lB := ⟨_, rfl⟩
    obtain ⟨why, hwhy⟩ : ∃ why, tabW TP = why := ⟨_, rfl⟩
    rw [hlA, hlB] at hlen
    rw [hlA, hlB, hwhy] at HT1 HT2
    obtain ⟨hlen1, hlen2⟩ := hlen
    clear hlA hlB hwhy
    go_wp2_with fail
    refine HT1.out.mono ?_
    rintro e w5 ⟨pa, ca, pb, cb, rfl, hA5, hB5, hU5, hn1, hn2⟩
    have hX5 := hX4.upd hU5 (by simp; omega) (by simp)
    have hlt4 := hX4.blk.lt
    go_wp2_with fail
    refine (HT2.out w5 hX5).mono ?_
    rintro e w6 ⟨pc, cc, pd, cd, a6, rfl, hC6, hD6, hU6, hX6⟩
    have hA6 := hA5.upd hU6 (fun b off e => by have := hn1 b off e; simp; omega)
    have hB6 := hB5.upd hU6 (fun b off e => by have := hn2 b off e; simp; omega)
    have hP : Upd [B, B + 1, B + 1 + 1] w2 w6 := ((hU24.mono (fun k hk => .inl (by simp at hk ⊢; omega))).then (hU5.mono (fun k hk => .inl (by simp at hk ⊢; omega)))).then (hU6.mono (fun k hk => .inl (by simp at hk ⊢; omega)))
    have hUw6 : Upd [] w w6 := HU2.out.trans hP (fun k hk => .inr (by rw [← HB.out]; simp at hk; omega))
    have c3 := hX6.blk.cell 3 rfl
    have HA := Lib.hid hA6
    have HB6 := Lib.hid hB6
    have HC := Lib.hid hC6
    have HD := Lib.hid hD6
    have HI6 := Lib.hid (HI.out.pure hUw6)
    clear hA6 hB6 hC6 hD6 hA5 hB5 hU5 hU6 hX6 hX5 hX4 hP hU24 hRd4 HT1 HT2 hn1 hn2 HI2 HI hlt4
    have hlAb : lA.length = lA.length := rfl
    clear hlAb HR1 HR2 eb et
    go_wp2_with fail
    go_loopg [15, 82] lA.length (fun g s15 s82 wr => ∃ i, i ≤ lA.length ∧ g = lA.length - i ∧ s82 = .int .i64 (i : Nat) ∧ Upd [] w6 wr)
    case atStart => exact ⟨0, by omega, rfl, rfl, .refl _ _⟩
    case round =>
      obtain ⟨i, hi, rfl, rfl, hUr⟩ := hrel
      by_cases hc : i < lA.length
      · have hcz : (i : Int) < (lA.length : Int) := by omega
        have hcd : decide (i < lA.length) = true := decide_eq_true hc
        have hi0 : (0 : Int) ≤ (i : Int) := by omega
        obtain ⟨b1, o1, rfl, d1, _, _⟩ := (HA.out.pure hUr).cell i hc
        obtain ⟨b2, o2, rfl, d2, _, _⟩ := (HC.out.pure hUr).cell i hc
        generalize lA[i] = y at *
        go_wp2
        go_quiet (fail)
        go_wp2
        go_roundg (lA.length - (i + 1))
        · exact ⟨i + 1, by omega, rfl, by first | rfl | go_num, hUr.drewN _⟩
        · omega
      · have hcz : ¬ (i : Int) < (lA.length : Int) := by omega
        have hcd : decide (i < lA.length) = false := decide_eq_false hc
        go_wp2
        go_loopg [16, 97] lB.length (fun g s16 s97 wx => ∃ j, j ≤ lB.length ∧ g = lB.length - j ∧ s97 = .int .i64 (j : Nat) ∧ Upd [] w6 wx)
        case atStart => exact ⟨0, by omega, rfl, rfl, hUr⟩
        case round =>
          obtain ⟨j, hj, rfl, rfl, hUx⟩ := hrel
          by_cases hcj : j < lB.length
          · have hjz : (j : Int) < (lB.length : Int) := by omega
            have hjd : decide (j < lB.length) = true := decide_eq_true hcj
            have hj0 : (0 : Int) ≤ (j : Int) := by omega
            obtain ⟨b3, o3, rfl, d3, _, _⟩ := (HB6.out.pure hUx).cell j hcj
            obtain ⟨b4, o4, rfl, d4, _, _⟩ := (HD.out.pure hUx).cell j hcj
            generalize lB[j] = y at *
            go_wp2
            go_quiet (fail)
            go_wp2
            go_roundg (lB.length - (j + 1))
            · exact ⟨j + 1, by omega, rfl, by first | rfl | go_num, hUx.drewN _⟩
            · omega
          · have hjz : ¬ (j : Int) < (lB.length : Int) := by omega
            have hjd : decide (j < lB.length) = false := decide_eq_false hcj
            go_wp2_with fail
            refine (lengths_any x0 cap0 l _ (by omega) (HI6.out.pure hUx)).mono ?_
            rintro e w7 ⟨rfl, hU7⟩
            go_wp2_with fail
            refine (rlengths_any x0 cap0 l _ (by omega) ((HI6.out.pure hUx).pure hU7)).mono ?_
            rintro e w8 ⟨rfl, rfl⟩
            go_wp2_with fail
            refine (lives8_any _).mono ?_
            rintro e w9 ⟨rfl, hU9⟩
            go_wp2
            go_returns
            exact ⟨rfl, ((hUw6.then hUx).then hU7).then hU9⟩
end Go.Proofs.Ytcddlnmfdjfjfaa

/- The walk of the law HuffReads. -/
import Derived.Test.YtcddlnmfdjfjfaaRef4N
import Derived.Test.YtcddlnmfdjfjfaaLawHuffC
import Derived.Test.YtcddlnmfdjfjfaaLawBitW
namespace Go.Proofs.Ytcddlnmfdjfjfaa
open Go.RowKit
set_option linter.unusedVariables false

theorem kindOf_le (l : List Int) : kindOf l ≤ 3 := by
  unfold kindOf
  split
  · rcases kindN_cases (nats l) with h | h | h | h <;> omega
  · omega
set_option maxRecDepth 100000 in
set_option maxHeartbeats 3200000 in
theorem law_huffReads (x : Option Addr) (len cap : Nat) (l : List Int) (S : ByteArray) (w : World) (hlen : len ≤ 9223372036854775807) (hI : IntsIn w x len l) (hS : S.size ≤ 9223372036854775807) :
    Calls Try.prog 6 #[.slice x len cap, .string S] w fun e w' => e = .returned (.bool true) ∧ Upd [] w w' := by
  have hll := hI.len
  have HI := Lib.hid hI
  clear hI
  subst hll
  go_enter Try.func6, Try.ntmps6
  go_upto_region 1 with fail
  go_cut [1] (fun s1 wx => s1 = .string (S.extract 0 (min S.size 40)) ∧ w = wx)
  case first =>
    go_wp2
    all_goals go_meet
    all_goals (refine ⟨?_, rfl⟩; first | (rw [Nat.min_eq_right (by omega)]; done) | (rw [Nat.min_eq_left (by omega), extract_whole]))
  case rest =>
    obtain ⟨rfl, rfl⟩ := hcut
    have hTs : (S.extract 0 (min S.size 40)).size ≤ 40 := by simp; omega
    generalize S.extract 0 (min S.size 40) = T at *
    by_cases hlong : 60 < l.length
    · have hnz : ((l.length : Nat) : Int) > 60 := by omega
      clear hlong
      go_wp2_with fail
      refine (lives4 _).mono ?_
      rintro e w1 ⟨rfl, hU1⟩
      go_wp2
      go_returns
      exact ⟨rfl, hU1⟩
    · have hnz : ¬ ((l.length : Nat) : Int) > 60 := by omega
      go_wp2_with fail
      refine (new_any _ _ _ _ _ hlen HI.out).mono ?_
      rintro e w1 ⟨hU1, ⟨hk, rfl⟩ | ⟨hk3, hk0, d, v, rfl, hD, hd, hv⟩⟩
      · go_wp2_with fail
        refine (rkind_any _ _ _ _ _ hlen (HI.out.pure hU1)).mono ?_
        rintro e w2 ⟨rfl, rfl⟩
        have hkc : ∃ kk : Int, ((kindOf l : Nat) : Int) = kk ∧ (kk == 1) = false ∧ (kk == 2) = false := ⟨_, rfl, by simp; omega, by simp; omega⟩
        obtain ⟨kk, hkk, hk1, hk2⟩ := hkc
        rw [hkk]
        clear hkk hk
        go_wp2_with (first
          | (refine (read_any _ _).mono ?_; rintro e w4 ⟨rfl, rfl⟩)
          | (refine (next_nil _ _).mono ?_; rintro e w4 ⟨rfl, rfl⟩)
          | (refine (lives4 _).mono ?_; rintro e w5 ⟨rfl, hU5⟩))
        go_returns
        exact ⟨rfl, (hU1.alloc _).then hU5⟩
      · go_wp2_with fail
        refine (rkind_any _ _ _ _ _ hlen (HI.out.pure hU1)).mono ?_
        rintro e w2 ⟨rfl, rfl⟩
        have hkc : ∃ kk : Int, ((kindOf l : Nat) : Int) = kk ∧ (kk = 1 ∨ kk = 2) := ⟨_, rfl, by have := kindOf_le l; omega⟩
        obtain ⟨kk, hkk, hkc⟩ := hkc
        rw [hkk]
        have H3 := Lib.hid hk3
        have hl0 : 0 < l.length := by
          rcases Nat.eq_zero_or_pos l.length with h | h
          · rw [List.eq_nil_of_length_eq_zero h] at hk0; exact absurd (by decide) hk0
          · exact h
        have hxb : ∀ b' off, x = some ⟨b', off, none⟩ → b' < w.heap.size := fun b' off e => by
          obtain ⟨b2, off2, e2, c, _⟩ := HI.out.cell 0 hl0
          rw [e] at e2
          injection e2 with e2
          injection e2 with e3 e4
          rw [e3]
          exact World.block_lt_of_cell? w _ c
        clear hkk hk0 hk3
        obtain ⟨hok, hps⟩ := kindOf_ok H3.out
        have hnl := length_nats l
        have h300 : (nats l).length ≤ 300 := by have := (okLens_spec hok).1; omega
        have hvlt := Row.lt hD.row
        have hdlt := hD.blk.lt
        clear hok
        go_wp2_with (first
          | (refine (read_any _ _).mono ?_; rintro e w4 ⟨rfl, rfl⟩)
          | (refine (rcodes_any _ _ _ _ _ hlen (HI.out.pure ((hU1.alloc _).alloc _))).mono ?_; rintro e w5 ⟨hU5, ⟨h4, _⟩ | ⟨_, g2, rfl, hg2, hR2⟩⟩))
        all_goals first | (exact absurd h4 H3.out) | skip
        all_goals
          have hUw := ((hU1.alloc _).alloc _).then hU5
          have hb1 := ((rd_new w1 T 89).upd (fp := []) ((Upd.refl [] _).alloc (.cells #[.string T, .int .i64 0, .bool false] 61)) (by simp)).upd hU5 (by simp)
          have hb2 := (rd_new (w1.alloc (.cells #[.string T, .int .i64 0, .bool false] 89)) T 61).upd hU5 (by simp)
          have hD5 := (((hD.upd ((Upd.refl [] _).alloc (.cells #[.string T, .int .i64 0, .bool false] 89)) (by simp) (by simp)).upd ((Upd.refl [] _).alloc (.cells #[.string T, .int .i64 0, .bool false] 61)) (by simp) (by simp))).upd hU5 (by simp) (by simp)
          have hI5 := HI.out.pure hUw
          rw [World.size_alloc] at hb2
          rw [World.size_alloc, World.size_alloc] at hg2
          have hb0 := hU1.size
          have hvb : ∀ k, v.ownBlock = some k → k ≠ w1.heap.size ∧ k ≠ w1.heap.size + 1 := fun k hk => by have := hvlt k hk; omega
          obtain ⟨b1, hb1e⟩ : ∃ b, b = w1.heap.size := ⟨_, rfl⟩
          rw [← hb1e] at hb1 hb2 hg2 hdlt hb0 hvb ⊢
          clear hvlt hD hd hv hU5 hU1 hb1e
          go_loopg [72] 320 (fun g s72 wr => ∃ i a bad, i ≤ 320 ∧ g = 320 - i ∧ s72 = .int .i64 (i : Nat) ∧ RdAt wr b1 89 T a bad ∧ RdAt wr (b1 + 1) 61 T a bad ∧ Upd [b1, b1 + 1] w5 wr)
          case atStart => exact ⟨0, 0, false, by omega, rfl, rfl, hb1, hb2, .refl _ _⟩
          case round =>
            obtain ⟨i, a, bad, hin, rfl, rfl, hr1, hr2, hU⟩ := hrel
            clear hb1 hb2
            have hUf : ∀ w', Upd [b1, b1 + 1] w5 w' → Upd [] w w' := fun w' h => hUw.trans h (fun k hk => by simp at hk; right; omega)
            have HF := Lib.hid hUf
            clear hUf
            by_cases hc : i < 320
            · have hcz : (i : Int) < 320 := by omega
              have hNx := next_any d b1 v (nats l) wr T a bad (hD5.upd hU (by simp; omega) (fun k hk hm => by have := hvb k hk; simp at hm; omega)) hr1 (by omega) (by omega) (fun h => (hvb _ h).1 rfl) hps h300
              have hRx := fun w6 (hU6 : Upd [b1] wr w6) => rnext_any x cap g2 (b1 + 1) l w6 T a bad (hI5.upd (hU.trans hU6 (fun k hk => .inl (by simp at hk; simp [hk]))) (fun b' off e => by have := hxb b' off e; simp; omega)) (hR2.upd (hU.trans hU6 (fun k hk => .inl (by simp at hk; simp [hk]))) (fun k hk => by simp [Value.ownBlock] at hk; simp; omega)) (hr2.upd hU6 (by simp)) (by omega) (fun b' off e => by have := hxb b' off e; simp; omega) (by omega) H3.out
              generalize nxt (nats l) T a bad = rr at *
              obtain ⟨o, a', bad'⟩ := rr
              have HR := Lib.hid hRx
              clear hRx
              cases o with
              | none =>
                have e1 : nxtVal (none, a', bad') = .tuple #[.int .i64 0, .bool false] := rfl
                rw [e1] at hNx HR
                have HN := Lib.hid hNx
                clear hNx e1
                go_wp2_with fail
                refine HN.out.mono ?_
                rintro e w6 ⟨rfl, hr1b, hU6⟩
                have hU6b := hU.trans hU6 (fun k hk => .inl (by simp at hk; simp [hk]))
                go_wp2_with fail
                refine (HR.out w6 hU6).mono ?_
                rintro e w7 ⟨rfl, hr2b, hU7⟩
                have hU7b := hU6b.trans hU7 (fun k hk => .inl (by simp at hk; simp [hk]))
                go_wp2_with fail
                refine (lives4 _).mono ?_
                rintro e w8 ⟨rfl, hU8⟩
                go_wp2
                go_returns
                exact ⟨rfl, (HF.out _ hU7b).then hU8⟩
              | some y =>
                have e1 : nxtVal (some y, a', bad') = .tuple #[.int .i64 (y : Nat), .bool true] := rfl
                rw [e1] at hNx HR
                have HN := Lib.hid hNx
                clear hNx e1
                go_wp2_with fail
                refine HN.out.mono ?_
                rintro e w6 ⟨rfl, hr1b, hU6⟩
                have hU6b := hU.trans hU6 (fun k hk => .inl (by simp at hk; simp [hk]))
                go_wp2_with fail
                refine (HR.out w6 hU6).mono ?_
                rintro e w7 ⟨rfl, hr2b, hU7⟩
                have hU7b := hU6b.trans hU7 (fun k hk => .inl (by simp at hk; simp [hk]))
                have hr1c := hr1b.upd hU7 (by simp)
                go_wp2
                go_roundg (320 - (i + 1))
                case measure => omega
                case rel => exact ⟨i + 1, a', bad', by omega, rfl, by go_num, hr1c, hr2b, hU7b⟩
            · have hcz : ¬ (i : Int) < 320 := by omega
              go_wp2_with fail
              refine (lives4 _).mono ?_
              rintro e w8 ⟨rfl, hU8⟩
              go_wp2
              go_returns
              exact ⟨rfl, (HF.out _ hU).then hU8⟩
end Go.Proofs.Ytcddlnmfdjfjfaa

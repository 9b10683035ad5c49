/- The walk of the law HuffBack. -/
import Derived.Test.YtcddlnmfdjfjfaaBack
import Derived.Test.YtcddlnmfdjfjfaaLawHuffR
namespace Go.Proofs.Ytcddlnmfdjfjfaa
open Go.RowKit
set_option linter.unusedVariables false

theorem IntsIn.of_row {w : World} {g n cap : Nat} {U : List Nat} (h : Row w 3 1 (.slice (some ⟨g, 0, none⟩) n cap) n (i64s U)) (hb : ∀ x ∈ U, x ≤ 1099511627776) : IntsIn w (some ⟨g, 0, none⟩) (U.map fun x : Nat => (x : Int)).length (U.map fun x : Nat => (x : Int)) :=
  ⟨rfl, fun i hi => by
    have hi' : i < U.length := by simpa using hi
    refine ⟨g, 0, rfl, ?_, ?_⟩
    · rw [Nat.zero_add, Row.cell h i (i64s_get _ _ _ (List.getElem?_eq_getElem hi'))]; simp
    · have := hb _ (List.getElem_mem hi')
      simp only [List.getElem_map]; omega⟩
theorem mayAll_succ (n : List Nat) {m : List Int} {i : Nat} (h : i < m.length) : mayAll n (m.take (i + 1)) = (mayAll n (m.take i) && mayB n m[i]) := by
  unfold mayAll; rw [take_snoc' m i h, List.all_append]; simp
theorem msgBits_split (n : List Nat) {m : List Int} {i : Nat} (h : i < m.length) : msgBits n m = msgBits n (m.take i) ++ symBits n (m[i]).toNat ++ msgBits n (m.drop (i + 1)) := by
  have e : m = m.take i ++ m[i] :: m.drop (i + 1) := by rw [List.getElem_cons_drop, List.take_append_drop]
  conv => lhs; rw [e]
  simp only [msgBits, List.flatMap_append, List.flatMap_cons, List.append_assoc]

/-- The loop that counts. -/
def UsedRel (w : World) (n : List Nat) (m : List Int) (gu j : Nat) (U : List Nat) (wr : World) : Prop :=
  Row wr 3 1 (.slice (some ⟨gu, 0, none⟩) n.length n.length) n.length (i64s U) ∧ U.length = n.length ∧ (∀ x ∈ U, x ≤ j) ∧ (mayAll n (m.take j) = true → costN n U n.length = (msgBits n (m.take j)).length) ∧ Upd [] w wr
theorem UsedRel.no {w : World} {n : List Nat} {m : List Int} {gu j : Nat} {U : List Nat} {wr : World} (h : UsedRel w n m gu j U wr) (hj : j < m.length) (hn : (mayAll n (m.take j) && mayB n m[j]) = false) : UsedRel w n m gu (j + 1) U wr :=
  ⟨h.1, h.2.1, fun x hx => Nat.le_succ_of_le (h.2.2.1 x hx), fun hm => by rw [mayAll_succ n hj, hn] at hm; exact absurd hm (by decide), h.2.2.2.2⟩
theorem UsedRel.yes {w : World} {n : List Nat} {m : List Int} {gu j S : Nat} {U : List Nat} {wr : World} (h : UsedRel w n m gu j U wr) (hj : j < m.length) (hS : m[j] = (S : Int)) (hSn : S < n.length) (hg : w.heap.size ≤ gu) (hm : mayAll n (m.take j) = true) :
    UsedRel w n m gu (j + 1) (U.set S (U.getD S 0 + 1)) (wr.setCell ⟨gu, S, none⟩ (.int .i64 ((U.getD S 0 + 1 : Nat) : Int))) := by
  obtain ⟨hR, hl, hb, hc, hU⟩ := h
  refine ⟨by rw [i64s_set]; exact Row.set hR S _, by rw [List.length_set]; exact hl, fun x hx => ?_, fun _ => ?_, hU.setCell (.inr hg) _⟩
  · rcases List.mem_or_eq_of_mem_set hx with h | h
    · exact Nat.le_succ_of_le (hb x h)
    · have : U.getD S 0 ≤ j := by
        rw [List.getD, List.getElem?_eq_getElem (by omega)]; exact hb _ (List.getElem_mem _)
      omega
  · rw [costN_set n U S (by omega), hc hm, if_pos hSn, msgBits_take n hj, List.length_append, length_symBits, hS]; simp

set_option maxRecDepth 100000 in
set_option maxHeartbeats 6400000 in
theorem law_huffBack (x y : Option Addr) (len cap len2 cap2 : Nat) (l m : List Int) (w : World) (hlen : len ≤ 9223372036854775807) (hI : IntsIn w x len l) (hlen2 : len2 ≤ 9223372036854775807) (hM : IntsIn w y len2 m) :
    Calls Try.prog 7 #[.slice x len cap, .slice y len2 cap2] w fun e w' => e = .returned (.bool true) ∧ Upd [] w w' := by
  have hll := hI.len
  have hmm := hM.len
  have HI := Lib.hid hI
  have HM := Lib.hid hM
  clear hI hM
  subst hll hmm
  by_cases hlong : 60 < l.length
  · have hnz : ((l.length : Nat) : Int) > 60 := by omega
    clear hlong
    go_enter Try.func7, Try.ntmps7
    go_wp2_with fail
    refine (lives4 _).mono ?_
    rintro e w1 ⟨rfl, hU1⟩
    go_wp2
    go_returns
    exact ⟨rfl, hU1⟩
  · by_cases hlong2 : 60 < m.length
    · have hnz : ((l.length : Nat) : Int) ≤ 60 := by omega
      have hnz2 : ((m.length : Nat) : Int) > 60 := by omega
      have hnf : decide ((60 : Int) < (l.length : Int)) = false := by simp; omega
      clear hlong hlong2
      go_enter Try.func7, Try.ntmps7
      go_wp2_with fail
      refine (lives4 _).mono ?_
      rintro e w1 ⟨rfl, hU1⟩
      go_wp2
      go_returns
      exact ⟨rfl, hU1⟩
    · have hnz : ((l.length : Nat) : Int) ≤ 60 := by omega
      have hnz2 : ((m.length : Nat) : Int) ≤ 60 := by omega
      have hnf : decide ((60 : Int) < (l.length : Int)) = false := by simp; omega
      have hnf2 : decide ((60 : Int) < (m.length : Int)) = false := by simp; omega
      clear hlong hlong2
      have hk3le := kindOf_le l
      go_enter Try.func7, Try.ntmps7
      go_wp2_with fail
      refine (codes_any x l.length cap l w hlen HI.out).mono ?_
      rintro e w1 ⟨hU1, ⟨h3, rfl⟩ | ⟨h3, g, rfl, hg, hR⟩⟩
      · have H3 := Lib.hid h3
        go_wp2_with fail
        refine (kind_any x l.length cap l w1 hlen (HI.out.pure hU1)).mono ?_
        rintro e w2 ⟨rfl, hU2⟩
        rw [h3]
        clear h3
        go_wp2_with fail
        have hz := IntsIn.of_blk (l := [0]) (Blk.new (w2.alloc (.cells #[.slice none 0 0, .int .u64 0, .int .i64 0] 26)) (([0] : List Int).map (Value.int .i64)) 3) (by simp)
        rw [World.size_alloc] at hz
        have hIz := HI.out.pure (((hU1.then hU2).alloc (.cells #[.slice none 0 0, .int .u64 0, .int .i64 0] 26)).alloc (.cells #[.int .i64 0] 3))
        have hw := write_no (.pointer (some ⟨w2.heap.size, 0, none⟩)) x _ cap 1 1 l [0] _ (by decide) hlen hIz hz (.inr ⟨H3.out, by simp⟩)
        refine hw.mono ?_
        rintro e w3 ⟨rfl, hU3⟩
        go_wp2_with fail
        refine (lives4 _).mono ?_
        rintro e w4 ⟨rfl, hU4⟩
        go_wp2
        go_returns
        exact ⟨rfl, (((((hU1.then hU2).alloc _).alloc _).then hU3).then hU4)⟩
      · have H3 := Lib.hid h3
        obtain ⟨hok, hps⟩ := kindOf_ok h3
        have HO := Lib.hid hok
        have hnl := length_nats l
        go_wp2_with fail
        refine (kind_any x l.length cap l w1 hlen (HI.out.pure hU1)).mono ?_
        rintro e w2 ⟨rfl, hU2⟩
        have hRb := hR.upd hU2 (by simp)
        have hU12 := hU1.then hU2
        obtain ⟨kk, hkk⟩ : ∃ kk, kindOf l = kk := ⟨_, rfl⟩
        have HKK := Lib.hid hkk
        rw [hkk]
        have hkf : (((kk : Nat) : Int) == 3) = false := by simp; omega
        have hkn : ((kk : Nat) : Int) ≠ 3 := by omega
        clear h3 hok hU1 hU2 hR hkk
        go_wp2
        go_loopg [57] l.length (fun g s57 wr => ∃ i, i ≤ l.length ∧ g = l.length - i ∧ s57 = .int .i64 (i : Nat) ∧ Upd [] w2 wr)
        case atStart => exact ⟨0, by omega, rfl, rfl, .refl _ _⟩
        case round =>
          obtain ⟨i, hin, rfl, rfl, hUa⟩ := hrel
          by_cases hc : i < l.length
          · have hcz : (i : Int) < (l.length : Int) := by omega
            go_wp2
            go_loopg [62] l.length (fun g s62 wx => ∃ j, j ≤ l.length ∧ g = l.length - j ∧ s62 = .int .i64 (j : Nat) ∧ Upd [] w2 wx)
            case atStart => exact ⟨0, by omega, rfl, rfl, hUa⟩
            case round =>
              obtain ⟨j, hjn, rfl, rfl, hUb⟩ := hrel
              by_cases hc2 : j < l.length
              · have hcz2 : (j : Int) < (l.length : Int) := by omega
                obtain ⟨bx, off, rfl, c1, _, _⟩ := (HI.out.pure (hU12.then hUb)).cell i hc
                obtain ⟨bx', off', e', c2, _, _⟩ := (HI.out.pure (hU12.then hUb)).cell j hc2
                cases e'
                have hk1 := (okLens_spec HO.out).2 _ (List.getElem_mem hc)
                have hk2 := (okLens_spec HO.out).2 _ (List.getElem_mem hc2)
                have d1 := Row.cell (hRb.upd hUb (by simp)) i (u32s_get _ _ _ (codes_getD (nats l) i (by omega)))
                have d2 := Row.cell (hRb.upd hUb (by simp)) j (u32s_get _ _ _ (codes_getD (nats l) j (by omega)))
                have hb1 := (codeAt_lt (nats l) hps (nats_le HO.out) i (by omega)).1
                have hb2 := (codeAt_lt (nats l) hps (nats_le HO.out) j (by omega)).1
                obtain ⟨p, hp⟩ : ∃ p : Nat, l[i] = (p : Int) := ⟨(l[i]).toNat, by omega⟩
                obtain ⟨q, hq⟩ : ∃ q : Nat, l[j] = (q : Int) := ⟨(l[j]).toNat, by omega⟩
                have hnp : (nats l).getD i 0 = p := by rw [List.getD, List.getElem?_eq_getElem (by omega)]; simp [nats, hp]
                have hnq : (nats l).getD j 0 = q := by rw [List.getD, List.getElem?_eq_getElem (by omega)]; simp [nats, hq]
                have hap := code_apart (nats l) i j (by omega) (by omega)
                rw [hnp, hnq] at hap
                rw [hp] at c1 hk1
                rw [hq] at c2 hk2
                have hlf : decide ((l.length : Int) ≤ (i : Int)) = false := by simp; omega
                have hlf2 : decide ((l.length : Int) ≤ (j : Int)) = false := by simp; omega
                clear hp hq hnp hnq
                generalize codeAt (nats l) i = e1 at *
                generalize codeAt (nats l) j = e2 at *
                by_cases hij : i = j
                · have hijf : ((i : Int) == (j : Int)) = true := by simp; omega
                  clear hap
                  subst hij
                  go_wp2
                  go_quiet (fail)
                  go_wp2
                  go_roundg (l.length - (i + 1))
                  case measure => omega
                  case rel => exact ⟨i + 1, by omega, rfl, by go_num, hUb.drewN nq⟩
                · have hijf : ((i : Int) != (j : Int)) = true := by simp; omega
                  by_cases hp0 : p = 0
                  · subst hp0
                    have c1' : wr.cell? ⟨bx, off + i, none⟩ = some (.int .i64 0) := c1
                    clear c1 hap
                    go_wp2
                    go_quiet (fail)
                    go_wp2
                    go_roundg (l.length - (j + 1))
                    case measure => omega
                    case rel => exact ⟨j + 1, by omega, rfl, by go_num, hUb.drewN nq⟩
                  · have hpp : (0 : Int) < (p : Int) := by omega
                    have hpf : decide (0 < p) = true := by simp; omega
                    by_cases hqp : q < p
                    · have hqf : decide (p ≤ q) = false := by simp; omega
                      clear hap
                      go_wp2
                      go_quiet (fail)
                      go_wp2
                      go_roundg (l.length - (j + 1))
                      case measure => omega
                      case rel => exact ⟨j + 1, by omega, rfl, by go_num, hUb.drewN nq⟩
                    · have hne := hap hij hp0 (by omega)
                      obtain ⟨t, rfl⟩ : ∃ t, q = p + t := ⟨q - p, by omega⟩
                      rw [Nat.add_sub_cancel_left] at hne
                      have c2' : wr.cell? ⟨bx, off + j, none⟩ = some (.int .i64 ((p : Int) + (t : Int))) := by rw [c2]; simp
                      have hqf : decide ((p : Int) ≤ (p : Int) + (t : Int)) = true := decide_eq_true (by omega)
                      have hef : (((e2 : Int) / 2 ^ t) == (e1 : Int)) = false := by
                        have : ((e2 : Int) / 2 ^ t) = ((e2 / 2 ^ t : Nat) : Int) := by simp
                        rw [this]; simp; omega
                      have ht15 : (t : Int) ≤ 15 := by omega
                      clear hap c2 hne
                      go_wp2
                      go_quiet (fail)
                      go_wp2
                      go_roundg (l.length - (j + 1))
                      case measure => omega
                      case rel => exact ⟨j + 1, by omega, rfl, by go_num, hUb.drewN nq⟩
              · have hcz2 : ¬ (j : Int) < (l.length : Int) := by omega
                go_wp2
                go_roundg (l.length - (i + 1))
                case measure => omega
                case rel => exact ⟨i + 1, by omega, rfl, by go_num, hUb⟩
          · have hcz : ¬ (i : Int) < (l.length : Int) := by omega
            have hU3 := hU12.then hUa
            have h300 : l.length ≤ 60 := by omega
            obtain ⟨i0, hi0, hz0, hz1, hz2⟩ := info_parts infoInt
            clear hc hin
            go_wp2_with (refine wpList_mk _ rfl _ _ 41 rfl 3 i0 _ Try.underlying41 hi0 hz0 hz1 rfl .i64 .i64 _ _ l.length rfl rfl rfl rfl (by rw [hz2]; omega) (by unfold maxLen; omega) ?_; intro w6 hR6 hU6 hs6)
            have hgu := hU3.size
            have hR60 : UsedRel w (nats l) m wr.heap.size 0 (List.replicate l.length 0) w6 := by
              refine ⟨?_, by simp [hnl], by simp, fun _ => by rw [costN_zero]; simp [msgBits], hU3.then hU6⟩
              rw [hnl, show i64s (List.replicate l.length 0) = List.replicate l.length (.int .i64 0) by simp [i64s]]
              exact hR6
            clear hR6 hU6 hs6 hU3 hUa
            generalize wr.heap.size = gu at *
            go_loopg [9, 114] m.length (fun g s9 s114 wx => ∃ j U, j ≤ m.length ∧ g = m.length - j ∧ s114 = .int .i64 (j : Nat) ∧ s9 = .bool (mayAll (nats l) (m.take j)) ∧ UsedRel w (nats l) m gu j U wx)
            case atStart => exact ⟨0, _, by omega, rfl, rfl, rfl, hR60⟩
            case round =>
              obtain ⟨j, U, hjn, rfl, rfl, rfl, hUR⟩ := hrel
              clear hR60
              by_cases hc : j < m.length
              · have hcz : (j : Int) < (m.length : Int) := by omega
                obtain ⟨bm, offm, rfl, c1, _, _⟩ := (HM.out.pure hUR.2.2.2.2).cell j hc
                have hsc := Lib.hid (mayAll_succ (nats l) hc)
                have hno := fun h => hUR.no hc h
                have hyes := fun S h1 h2 h3 => hUR.yes (S := S) hc h1 h2 hgu h3
                cases hf : mayAll (nats l) (m.take j) with
                | false =>
                  rw [hf] at hsc hno
                  have HNO := Lib.hid (hno rfl)
                  clear hno hyes hf
                  generalize m[j] = s at *
                  go_wp2
                  go_roundg (m.length - (j + 1))
                  case measure => omega
                  case rel => exact ⟨j + 1, U, by omega, rfl, by go_num, by rw [hsc.out]; rfl, HNO.out⟩
                | true =>
                  rw [hf, Bool.true_and] at hsc hno
                  have HY := Lib.hid (fun S h1 h2 => hyes S h1 h2 hf)
                  have HNO := Lib.hid hno
                  have hmb : mayB (nats l) m[j] = (decide (0 ≤ m[j]) && decide (m[j] < ((nats l).length : Int)) && decide ((nats l).getD (m[j]).toNat 0 ≠ 0)) := rfl
                  rw [hnl] at hmb
                  clear hno hyes hf
                  generalize m[j] = s at *
                  by_cases hs : s < 0
                  · have hsf : decide (0 ≤ s) = false := by simp; omega
                    rw [hsf] at hmb
                    have HB := Lib.hid (show mayB (nats l) s = false from hmb)
                    clear hmb
                    go_wp2
                    go_roundg (m.length - (j + 1))
                    case measure => omega
                    case rel => exact ⟨j + 1, U, by omega, rfl, by go_num, by rw [hsc.out, HB.out], HNO.out HB.out⟩
                  · by_cases hs2 : (l.length : Int) ≤ s
                    · have hsf : decide (s < (l.length : Int)) = false := by simp; omega
                      have hst : decide (0 ≤ s) = true := by simp; omega
                      rw [hsf] at hmb
                      have HB := Lib.hid (show mayB (nats l) s = false by rw [hmb]; simp)
                      clear hmb
                      go_wp2
                      go_roundg (m.length - (j + 1))
                      case measure => omega
                      case rel => exact ⟨j + 1, U, by omega, rfl, by go_num, by rw [hsc.out, HB.out], HNO.out HB.out⟩
                    · obtain ⟨S, rfl⟩ : ∃ S : Nat, s = (S : Int) := ⟨s.toNat, by omega⟩
                      have hSl : S < l.length := by omega
                      have hslt : decide ((S : Int) < (l.length : Int)) = true := by simp; omega
                      have hslf : decide ((l.length : Int) ≤ (S : Int)) = false := by simp; omega
                      obtain ⟨bx, offx, rfl, d0, q1, q2⟩ := (HI.out.pure hUR.2.2.2.2).cell S hSl
                      have hkk := (okLens_spec HO.out).2 _ (List.getElem_mem hSl)
                      obtain ⟨k, hk⟩ : ∃ k : Nat, l[S] = (k : Int) := ⟨(l[S]).toNat, by omega⟩
                      have hnd : (nats l).getD S 0 = k := by rw [List.getD, List.getElem?_eq_getElem (by omega)]; simp [nats, hk]
                      rw [hk] at d0
                      rw [Int.toNat_natCast, hnd] at hmb
                      clear hkk hk hnd q1 q2
                      by_cases hk0 : k = 0
                      · subst hk0
                        have d1 : wr.cell? ⟨bx, offx + S, none⟩ = some (.int .i64 0) := d0
                        have HB := Lib.hid (show mayB (nats l) (S : Int) = false by rw [hmb]; simp)
                        clear d0 hmb
                        go_wp2
                        go_roundg (m.length - (j + 1))
                        case measure => omega
                        case rel => exact ⟨j + 1, U, by omega, rfl, by go_num, by rw [hsc.out, HB.out], HNO.out HB.out⟩
                      · have hkf : decide ((0 : Int) < (k : Int)) = true := by simp; omega
                        have HB := Lib.hid (show mayB (nats l) (S : Int) = true by rw [hmb]; simp; omega)
                        have hY := Lib.hid (HY.out S rfl (by omega))
                        obtain ⟨hRu, hUl, hUb, _, hUw⟩ := hUR
                        have hSU : S < U.length := by omega
                        rw [hnl] at hRu
                        have u1 := Row.cell hRu S (i64s_get _ _ _ (List.getElem?_eq_getElem hSU))
                        have f1 := Row.frz hRu S
                        have hux := hUb _ (List.getElem_mem hSU)
                        have hgd : Hid (U.getD S 0 = U[S]) := Lib.hid (by simp [List.getD, hSU])
                        rw [hgd.out] at hY
                        clear hUb hRu hUl hmb HY HNO
                        generalize U[S] = uS at *
                        go_wp2
                        go_roundg (m.length - (j + 1))
                        case measure => omega
                        case rel => exact ⟨j + 1, _, by omega, rfl, by go_num, by rw [hsc.out, HB.out], hY.out⟩
              · have hcz : ¬ (j : Int) < (m.length : Int) := by omega
                have hj : j = m.length := by omega
                subst hj
                rw [List.take_length] at *
                obtain ⟨hRu, hUl, hUb, hcost, hUw⟩ := hUR
                rw [List.take_length] at hcost
                have hWn := wr_new wr
                have hUn := hUw.alloc (.cells #[.slice none 0 0, .int .u64 0, .int .i64 0] 26)
                have hbw := hUw.size
                have hIn := HI.out.pure hUn
                have hMn := HM.out.pure hUn
                have hRn := hRu.alloc (.cells #[.slice none 0 0, .int .u64 0, .int .i64 0] 26)
                have hgul := hRu.lt gu rfl
                cases hf : mayAll (nats l) m with
                | false =>
                  have hWx := write_no (.pointer (some ⟨wr.heap.size, 0, none⟩)) x y cap m.length cap2 l m _ hlen2 hlen hIn hMn (.inl ⟨H3.out, hf⟩)
                  have HWx := Lib.hid hWx
                  clear hWx hcost hRu
                  go_wp2_with fail
                  refine HWx.out.mono ?_
                  rintro e w7 ⟨rfl, hU7⟩
                  have HLen := len_any _ w7 _ [] (hWn.upd hU7 (by simp) (by simp)) (by simp)
                  go_wp2_with fail
                  refine HLen.mono ?_
                  rintro e w8 ⟨rfl, n8, rfl⟩
                  go_wp2_with fail
                  refine (lives4 _).mono ?_
                  rintro e w9 ⟨rfl, hU9⟩
                  go_wp2
                  go_returns
                  exact ⟨rfl, ((hUn.then hU7).drewN n8).then hU9⟩
                | true =>
                  have hcc := hcost hf
                  have hfar : ∀ k ∈ wrFp wr.heap.size (.slice none 0 0), wr.heap.size ≤ k := fun k hk => by simp [wrFp, Value.ownBlock] at hk; omega
                  have hIf := fun w' (hU : Upd (wrFp wr.heap.size (.slice none 0 0)) (wr.alloc (.cells #[.slice none 0 0, .int .u64 0, .int .i64 0] 26)) w') => (HI.out.pure hUw).far (((Upd.refl (wrFp wr.heap.size (.slice none 0 0)) wr).alloc _).then hU) hfar
                  have hMf := fun w' (hU : Upd (wrFp wr.heap.size (.slice none 0 0)) (wr.alloc (.cells #[.slice none 0 0, .int .u64 0, .int .i64 0] 26)) w') => (HM.out.pure hUw).far (((Upd.refl (wrFp wr.heap.size (.slice none 0 0)) wr).alloc _).then hU) hfar
                  have hWx := write_any wr.heap.size (.slice none 0 0) [] x y cap cap2 l m _ (by omega) (fun w' hU => hIf w' hU) (fun w' hU => hMf w' hU) hWn (by simp) H3.out hf
                  have HWx := Lib.hid hWx
                  clear hWx hcost
                  go_wp2_with fail
                  refine HWx.out.mono ?_
                  rintro e w7 ⟨rfl, v7, hW7, hU7, hT7⟩
                  have hI7 := hIf w7 hU7
                  have hM7 := hMf w7 hU7
                  have hUw7 : Upd [] w w7 := hUn.trans hU7 (fun k hk => .inr (Nat.le_trans hbw (hfar k hk)))
                  have hR7 := Row.upd hRn hU7 (fun k hk hm => by have := hfar k hm; simp [Value.ownBlock] at hk; omega)
                  rw [List.nil_append] at hW7
                  have hbits := msgBits_le (nats l) m (nats_le HO.out)
                  have hb7 : wr.heap.size < w7.heap.size := hW7.blk.lt
                  have hv7 := hW7.row.lt
                  have hv7b := hW7.far
                  have hcb : ∀ x ∈ U, x ≤ 1099511627776 := fun x hx => by have := hUb x hx; omega
                  clear HWx hIf hMf hIn hMn hRn hU7 hT7 hUn hWn hRu
                  generalize wr.heap.size = bw at *
                  by_cases hk0 : kk = 0
                  · subst hk0
                    go_wp2_with fail
                    refine (lives4 _).mono ?_
                    rintro e w8 ⟨rfl, hU8⟩
                    go_wp2
                    go_returns
                    exact ⟨rfl, hUw7.then hU8⟩
                  · have hk0f : (((kk : Nat) : Int) == 0) = false := by simp; omega
                    have hKne : kindOf l ≠ 0 := by rw [HKK.out]; exact hk0
                    have HNew := Lib.hid (new_any x l.length cap l w7 hlen hI7)
                    have HKne := Lib.hid hKne
                    clear hKne
                    go_wp2_with fail
                    refine HNew.out.mono ?_
                    rintro e w8 ⟨hU8, ⟨hk, _⟩ | ⟨_, _, d, v, rfl, hD, hd, hv⟩⟩
                    · rcases hk with h | h
                      · exact absurd h H3.out
                      · exact absurd h HKne.out
                    · have hW8 := hW7.upd hU8 (by simp) (by simp)
                      go_wp2_with fail
                      refine (bytes_any _ _ v7 _ hW8 (by omega)).mono ?_
                      rintro e w9 ⟨rfl, hU9⟩
                      go_wp2_with fail
                      refine (read_any _ _).mono ?_
                      rintro e w10 ⟨rfl, rfl⟩
                      have hsz := size_pack (msgBits (nats l) m)
                      have hr0 := rd_new w9 (strOf (pack (msgBits (nats l) m))) 89
                      have hU79 := hU8.then hU9
                      have hM9 := hM7.pure hU79
                      have hI9 := hI7.pure hU79
                      have hR9 := Row.upd hR7 hU79 (by simp)
                      have hW9 := hW8.upd hU9 (by simp) (by simp)
                      have hD9 := hD.upd hU9 (by simp) (by simp)
                      have hUw9 := hUw7.then hU79
                      have hdl := hD.blk.lt
                      have hvl := Row.lt hD.row
                      have hs89 := hU9.size
                      have hs79 := hU79.size
                      have hrs : w.heap.size ≤ w9.heap.size := hUw9.size
                      obtain ⟨r, hr⟩ : ∃ r, w9.heap.size = r := ⟨_, rfl⟩
                      rw [hr] at hr0 hs89 hs79 hrs ⊢
                      clear HNew hW8 hD hU8 hU9 hM7 hI7 hR7 hW7
                      have hbnd : (msgBits (nats l) m).length ≤ 900 := by omega
                      obtain ⟨sP, hsP⟩ : ∃ sP, strOf (pack (msgBits (nats l) m)) = sP := ⟨_, rfl⟩
                      rw [hsP] at hr0 hsz ⊢
                      have HSP := Lib.hid hsP
                      clear hsP
                      go_wp2
                      go_loopg [173] m.length (fun g s173 wx => ∃ j, j ≤ m.length ∧ g = m.length - j ∧ s173 = .int .i64 (j : Nat) ∧ RdAt wx r 89 sP (msgBits (nats l) (m.take j)).length false ∧ Upd [r] w9 wx)
                      case atStart => exact ⟨0, by omega, rfl, rfl, hr0, (Upd.refl _ _).alloc _⟩
                      case round =>
                        obtain ⟨j, hjn, rfl, rfl, hRd, hUr⟩ := hrel
                        clear hr0
                        by_cases hc : j < m.length
                        · have hcz : (j : Int) < (m.length : Int) := by omega
                          obtain ⟨bm, offm, rfl, c1, _, _⟩ := (hM9.far hUr (fun k hk => by simp at hk; omega)).cell j hc
                          have hmb := mayAll_at hc hf
                          simp only [mayB, Bool.and_eq_true, decide_eq_true_eq] at hmb
                          have hsp := msgBits_split (nats l) hc
                          have hmt := msgBits_take (nats l) hc
                          generalize m[j] = s at *
                          obtain ⟨S, rfl⟩ : ∃ S : Nat, s = (S : Int) := ⟨s.toNat, by omega⟩
                          rw [Int.toNat_natCast] at hmb hsp hmt
                          have hnb := nxt_back (nats l) (msgBits (nats l) (m.take j)) (msgBits (nats l) (m.drop (j + 1))) S hps (nats_le HO.out) (by omega) hmb.2
                          rw [← hsp, HSP.out, ← hmt] at hnb
                          have hNx := next_any d r v (nats l) wr sP _ false (hD9.upd hUr (by simp; omega) (fun k hk hm => by have := hvl k hk; simp at hm; omega)) hRd (by omega) (by omega) (fun h => by have := hvl _ h; omega) hps (by omega)
                          rw [hnb] at hNx
                          have e1 : nxtVal (some S, (msgBits (nats l) (m.take (j + 1))).length, false) = .tuple #[.int .i64 (S : Nat), .bool true] := rfl
                          rw [e1] at hNx
                          have HN := Lib.hid hNx
                          clear hNx hnb hsp hmt hmb e1
                          go_wp2_with fail
                          refine HN.out.mono ?_
                          rintro e w11 ⟨rfl, hRd2, hU11⟩
                          go_wp2
                          go_roundg (m.length - (j + 1))
                          case measure => omega
                          case rel => exact ⟨j + 1, by omega, rfl, by go_num, hRd2, hUr.then hU11⟩
                        · have hcz : ¬ (j : Int) < (m.length : Int) := by omega
                          have hLen := len_any bw wr v7 (msgBits (nats l) m) (hW9.upd hUr (by simp; omega) (fun k hk hm => by have := hv7 k hk; simp at hm; omega)) (by omega)
                          have hIr := hI9.far hUr (fun k hk => by simp at hk; omega)
                          have hRr := Row.upd hR9 hUr (fun k hk hm => by simp [Value.ownBlock] at hk hm; omega)
                          have hIu := IntsIn.of_row hRr hcb
                          rw [List.length_map, hUl] at hIu
                          have hCo := fun n8 => cost_any x (some ⟨gu, 0, none⟩) cap (nats l).length l (U.map fun x : Nat => (x : Int)) (wr.drewN n8) (hIr.pure ((Upd.refl [] _).drewN n8)) (by rw [List.length_map, hUl]; exact hIu.pure ((Upd.refl [] _).drewN n8)) hlen (by rw [List.length_map]; omega)
                          have hmin : min (min l.length (U.map fun x : Nat => (x : Int)).length) 300 = (nats l).length := by rw [List.length_map]; omega
                          rw [hmin, costTo_costN l U (okLens_spec HO.out).2 hcb, hcc, List.length_map, hUl, hnl] at hCo
                          have HCo := Lib.hid hCo
                          have HLen := Lib.hid hLen
                          have hUw : Upd [] w wr := hUw9.trans hUr (fun k hk => by simp at hk; right; omega)
                          clear hCo hLen hcc hmin
                          generalize (msgBits (nats l) m).length = M at *
                          go_wp2_with fail
                          refine HLen.out.mono ?_
                          rintro e w11 ⟨rfl, n8, rfl⟩
                          go_wp2_with fail
                          refine (HCo.out n8).mono ?_
                          rintro e w12 ⟨rfl, n9, rfl⟩
                          go_wp2_with fail
                          refine (lives4 _).mono ?_
                          rintro e w13 ⟨rfl, hU13⟩
                          go_wp2
                          go_returns
                          exact ⟨rfl, (hUw.drewN (n8 + n9)).then hU13⟩
end Go.Proofs.Ytcddlnmfdjfjfaa

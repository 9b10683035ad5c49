/- The walks of the reference of layer 4 (swingleref04): Kind, Codes. -/
import Derived.Test.YtcddlnmfdjfjfaaHuffV
namespace Go.Proofs.Ytcddlnmfdjfjfaa
open Go.RowKit

set_option maxRecDepth 100000 in
set_option maxHeartbeats 3200000 in
theorem rkind_any (a : Option Addr) (len cap : Nat) (l : List Int) (w : World) (hlen : len ≤ 9223372036854775807) (hI : IntsIn w a len l) :
    Calls Try.prog 25 #[.slice a len cap] w fun e w' => e = .returned (.int .i64 (kindOf l : Nat)) ∧ w = w' := by
  have hll := hI.len
  have HI := Lib.hid hI
  clear hI
  subst hll
  by_cases hlong : 300 < l.length
  · have hnz : ((l.length : Nat) : Int) > 300 := by omega
    have hk := Lib.hid (show kindOf l = 3 by unfold kindOf; rw [if_neg (by rw [okLens_long hlong]; decide)])
    clear hlong
    go_enter Try.func25, Try.ntmps25
    go_wp2
    go_returns
    exact ⟨by rw [hk.out]; rfl, rfl⟩
  · have hnz : ¬ ((l.length : Nat) : Int) > 300 := by omega
    go_enter Try.func25, Try.ntmps25
    go_wp2
    go_loopg [3, 13] l.length (fun g s3 s13 wr => ∃ i, i ≤ l.length ∧ g = l.length - i ∧ s13 = .int .i64 (i : Nat) ∧ s3 = .int .i64 (wsum (nats (l.take i)) : Nat) ∧ okLens (l.take i) = true ∧ w = wr)
    case atStart => exact ⟨0, by omega, rfl, rfl, rfl, okLens_mk (by simp) (by simp), rfl⟩
    case round =>
      obtain ⟨i, hin, rfl, rfl, rfl, hok, rfl⟩ := hrel
      have hle : wsum (nats (l.take i)) ≤ 300 * 32768 := wsum_le _ (by rw [length_nats, List.length_take]; omega)
      by_cases hc : i < l.length
      · have hcz : (i : Int) < (l.length : Int) := by omega
        obtain ⟨b, off, rfl, c0, r1, r2⟩ := HI.out.cell i hc
        by_cases hb : 0 ≤ l[i] ∧ l[i] ≤ 15
        · obtain ⟨hb0, hb15⟩ := hb
          have hok2 := Lib.hid (okLens_take hc hok (by omega) hb0 hb15)
          obtain ⟨k, hk⟩ : ∃ k : Nat, l[i] = (k : Int) := ⟨l[i].toNat, by omega⟩
          have hn2 := Lib.hid (show wsum (nats (l.take (i + 1))) = wsum (nats (l.take i)) + wt k by rw [take_snoc' l i hc, ← wsum_snoc]; simp [nats, hk])
          rw [hk] at c0 hb0 hb15
          clear hk r1 r2 hok
          generalize wsum (nats (l.take i)) = s at *
          go_wp2
          go_loopg [6, 7] k (fun g s6 s7 wx => ∃ j, j ≤ k ∧ g = k - j ∧ s7 = .int .i64 (j : Nat) ∧ s6 = .int .i64 ((2 ^ (15 - j) : Nat) : Int) ∧ w = wx)
          case atStart => exact ⟨0, by omega, rfl, rfl, rfl, rfl⟩
          case round =>
            obtain ⟨j, hj, rfl, rfl, rfl, rfl⟩ := hrel
            have hp : 2 ^ (15 - j) ≤ 2 ^ 15 := Nat.pow_le_pow_right (by omega) (by omega)
            by_cases hjk : j < k
            · have hjz : (j : Int) < (k : Int) := by omega
              have hpp := Lib.hid (show 2 ^ (15 - j) / 2 = 2 ^ (15 - (j + 1)) by rw [show 15 - j = (15 - (j + 1)) + 1 by omega, Nat.pow_succ, Nat.mul_div_cancel _ (by omega)])
              generalize 2 ^ (15 - j) = p at *
              go_wp2
              go_roundg (k - (j + 1))
              case measure => omega
              case rel => exact ⟨j + 1, by omega, rfl, by go_num, by rw [← hpp.out]; simp, rfl⟩
            · have hjz : ¬ (j : Int) < (k : Int) := by omega
              have hjk' : j = k := by omega
              by_cases hk0 : k = 0
              · have hkz : ¬ (0 : Int) < (k : Int) := by omega
                have hw0 := Lib.hid (show wt k = 0 by unfold wt; rw [if_pos hk0])
                clear hk0 hjk'
                generalize 2 ^ (15 - j) = p at *
                go_wp2
                go_roundg (l.length - (i + 1))
                case measure => omega
                case rel => exact ⟨i + 1, by omega, rfl, by go_num, by rw [hn2.out, hw0.out]; rfl, hok2.out, rfl⟩
              · have hkz : (0 : Int) < (k : Int) := by omega
                have hw0 := Lib.hid (show wt k = 2 ^ (15 - j) by unfold wt; rw [if_neg hk0, hjk'])
                clear hk0 hjk'
                generalize 2 ^ (15 - j) = p at *
                go_wp2
                go_roundg (l.length - (i + 1))
                case measure => omega
                case rel => exact ⟨i + 1, by omega, rfl, by go_num, by rw [hn2.out, hw0.out]; simp, hok2.out, rfl⟩
        · have hk := Lib.hid (show kindOf l = 3 by unfold kindOf; rw [if_neg (by rw [okLens_not hc hb]; decide)])
          generalize wsum (nats (l.take i)) = s at *
          by_cases hb0 : l[i] < 0
          · generalize l[i] = x at *
            clear hb
            go_wp2
            go_returns
            exact ⟨by rw [hk.out]; rfl, rfl⟩
          · have hb15 : 15 < l[i] := by omega
            generalize l[i] = x at *
            clear hb
            go_wp2
            go_returns
            exact ⟨by rw [hk.out]; rfl, rfl⟩
      · have hcz : ¬ (i : Int) < (l.length : Int) := by omega
        have hi : i = l.length := by omega
        rw [hi, List.take_length] at hok hle
        have e : wsum (nats (l.take i)) = wsum (nats l) := by rw [hi, List.take_length]
        rw [e]
        have hkind := Lib.hid (show kindOf l = kindN (nats l) by unfold kindOf; rw [if_pos hok])
        have hkc := kindN_cases (nats l)
        clear hi e hle
        generalize wsum (nats l) = s at *
        rcases hkc with ⟨h0, hkn⟩ | ⟨h0, h1, hkn⟩ | ⟨h0, hkn⟩ | ⟨h0, hkn⟩
        · have HK := Lib.hid hkn
          have hs : (s : Int) = 0 := by omega
          clear hkn
          go_wp2
          go_returns
          exact ⟨by rw [hkind.out, HK.out]; rfl, rfl⟩
        · have HK := Lib.hid hkn
          have hs1 : ((s : Int) == 0) = false := by simp; omega
          have hs3 : ((s : Int) == 32768) = false := by simp; omega
          have hs2 : decide ((s : Int) < 32768) = true := by simp; omega
          clear hkn h0 h1
          go_wp2
          go_returns
          exact ⟨by rw [hkind.out, HK.out]; rfl, rfl⟩
        · have HK := Lib.hid hkn
          have hs : (s : Int) = 32768 := by omega
          clear hkn
          go_wp2
          go_returns
          exact ⟨by rw [hkind.out, HK.out]; rfl, rfl⟩
        · have HK := Lib.hid hkn
          have hs1 : ((s : Int) == 0) = false := by simp; omega
          have hs3 : ((s : Int) == 32768) = false := by simp; omega
          have hs2 : decide ((s : Int) < 32768) = false := by simp; omega
          clear hkn h0
          go_wp2
          go_returns
          exact ⟨by rw [hkind.out, HK.out]; rfl, rfl⟩
def RCodesRel (w : World) (n : List Nat) (g k i : Nat) (wr : World) : Prop :=
  Row wr 32 1 (.slice (some ⟨g, 0, none⟩) n.length n.length) n.length (u32s (outq n k i)) ∧ Upd [] w wr

set_option maxRecDepth 100000 in
set_option maxHeartbeats 3200000 in
theorem rcodes_any (a : Option Addr) (len cap : Nat) (l : List Int) (w : World) (hlen : len ≤ 9223372036854775807) (hI : IntsIn w a len l) :
    Calls Try.prog 23 #[.slice a len cap] w (CodesPost w l) := by
  have hll := hI.len
  have HI := Lib.hid hI
  clear hI
  subst hll
  have HK := Lib.hid (rkind_any a l.length cap l w hlen HI.out)
  obtain ⟨i0, hi0, hz0, hz1, hz2⟩ := info_parts infoU32
  by_cases hk3 : kindOf l = 3
  · have H3 := Lib.hid hk3
    rw [hk3] at HK
    clear hk3
    go_enter Try.func23, Try.ntmps23
    go_wp2_with fail
    refine HK.out.mono ?_
    rintro e w1 ⟨rfl, rfl⟩
    go_wp2
    go_returns
    exact ⟨.refl _ _, .inl ⟨H3.out, rfl⟩⟩
  · obtain ⟨hok, hps⟩ := kindOf_ok hk3
    have hkb : ((kindOf l : Nat) : Int) ≠ 3 := by omega
    have H3 := Lib.hid hk3
    have HO := Lib.hid hok
    generalize kindOf l = kk at HK hkb
    clear hk3
    have hnl := length_nats l
    have h300 := (okLens_spec HO.out).1
    have hpb := Lib.hid (fun k hk => fst_cnt (nats l) hps k hk)
    clear hps hok
    go_enter Try.func23, Try.ntmps23
    go_wp2_with fail
    refine HK.out.mono ?_
    rintro e w1 ⟨rfl, rfl⟩
    go_wp2_with (refine wpList_mk _ rfl _ _ 27 rfl 32 i0 _ Try.underlying27 hi0 hz0 hz1 rfl .i64 .i64 _ _ l.length rfl rfl rfl rfl (by rw [hz2]; omega) (by unfold maxLen; omega) ?_; intro w6 hR6 hU6 hs6)
    have hRel0 : RCodesRel w (nats l) w.heap.size 1 0 w6 := by
      refine ⟨?_, hU6⟩
      rw [outq_1, hnl]
      have e : u32s (List.replicate l.length 0) = List.replicate l.length (.int .u32 0) := by simp [u32s]
      rw [e]; exact hR6
    clear hR6 hU6 hs6
    have hgs : w.heap.size ≤ w.heap.size := Nat.le_refl _
    generalize hgg : w.heap.size = g at *
    have HG := Lib.hid hgg
    clear hgg
    go_loopg [4, 5] 15 (fun gg s4 s5 wr => ∃ k, k ≤ 15 ∧ gg = 15 - k ∧ s5 = .int .i64 ((k + 1 : Nat) : Int) ∧ s4 = .int .u32 ((fst (nats l) k + cnt (nats l) k : Nat) : Int) ∧ RCodesRel w (nats l) g (k + 1) 0 wr)
    case atStart => exact ⟨0, by omega, rfl, rfl, rfl, hRel0⟩
    case round =>
      obtain ⟨k, hk, rfl, rfl, rfl, hR, hU⟩ := hrel
      clear hRel0
      have hle := hpb.out k hk
      have hp15 : 2 ^ k ≤ 2 ^ 15 := Nat.pow_le_pow_right (by omega) (by omega)
      have hfs : fst (nats l) (k + 1) = 2 * (fst (nats l) k + cnt (nats l) k) := rfl
      by_cases hc : k < 15
      · have hcz : (k : Int) + 1 ≤ 15 := by omega
        have hle2 := hpb.out (k + 1) (by omega)
        have hp16 : 2 ^ (k + 1) ≤ 2 ^ 15 := Nat.pow_le_pow_right (by omega) (by omega)
        have hf1 : ((2 * (fst (nats l) k + cnt (nats l) k) : Nat) : Int) = ((fst (nats l) (k + 1) + cnt ((nats l).take 0) (k + 1) : Nat) : Int) := by rw [hfs]; simp [cnt]
        have HF := Lib.hid hf1
        clear hf1 hfs
        generalize fst (nats l) k + cnt (nats l) k = q at *
        go_wp2
        go_loopg [4, 21] l.length (fun gg s4 s21 wx => ∃ i, i ≤ l.length ∧ gg = l.length - i ∧ s21 = .int .i64 (i : Nat) ∧ s4 = .int .u32 ((fst (nats l) (k + 1) + cnt ((nats l).take i) (k + 1) : Nat) : Int) ∧ RCodesRel w (nats l) g (k + 1) i wx)
        case atStart => exact ⟨0, by omega, rfl, rfl, by rw [← HF.out]; simp, hR, hU⟩
        case round =>
          obtain ⟨i, hin, rfl, rfl, rfl, hR2, hU2⟩ := hrel
          have hct := cnt_take_le (nats l) i (k + 1)
          by_cases hc2 : i < l.length
          · have hcz2 : (i : Int) < (l.length : Int) := by omega
            obtain ⟨b, off, rfl, c0, r1, r2⟩ := (HI.out.pure hU2).cell i hc2
            have hkk := (okLens_spec HO.out).2 _ (List.getElem_mem hc2)
            obtain ⟨x, hx⟩ : ∃ x : Nat, l[i] = (x : Int) := ⟨l[i].toNat, by omega⟩
            have hin' : i < (nats l).length := by omega
            have hnk : (nats l)[i] = x := by simp [nats, hx]
            have hnd : (nats l).getD i 0 = x := by rw [List.getD, List.getElem?_eq_getElem hin']; exact hnk
            rw [hx] at c0 hkk
            have hcs := cnt_take (nats l) i (k + 1) hin'
            rw [hnk] at hcs
            clear hx r1 r2
            have hqb : fst (nats l) (k + 1) + cnt ((nats l).take i) (k + 1) ≤ 32768 := by omega
            have hR3 := hR2
            rw [hnl] at hR3
            obtain ⟨xo, hxo⟩ : ∃ x, (u32s (outq (nats l) (k + 1) i))[i]? = some x := ⟨_, List.getElem?_eq_getElem (by rw [length_u32s, length_outq]; omega)⟩
            have d2 := Row.cell hR3 i hxo
            have f2 := Row.frz hR3 i
            by_cases hxk : x = k + 1
            · have h2 := outq_set (nats l) (k + 1) i (by rw [hnd, hxk])
              have h3 := codeAt_pos (nats l) i hin' (by omega)
              rw [hnk, hxk] at h3
              rw [h3] at h2
              have H2 := Lib.hid h2
              have hxz : (x : Int) = (k : Int) + 1 := by omega
              have hcs2 : Hid (fst (nats l) (k + 1) + cnt ((nats l).take i) (k + 1) + 1 = fst (nats l) (k + 1) + cnt ((nats l).take (i + 1)) (k + 1)) := Lib.hid (by rw [hcs, if_pos ⟨hxk, by omega⟩]; omega)
              clear h2 h3 hcs hnk hnd hxo hxk hct hle2 hR2
              generalize fst (nats l) (k + 1) + cnt ((nats l).take i) (k + 1) = q2 at *
              go_wp2
              go_roundg (l.length - (i + 1))
              case measure => omega
              case rel =>
                refine ⟨i + 1, by omega, rfl, by go_num, by rw [← hcs2.out]; go_num, ?_, hU2.setCell (.inr (by rw [HG.out]; exact Nat.le_refl _)) _⟩
                rw [← H2.out, u32s_set, hnl]
                exact hR3.set i _
            · have h2 := Lib.hid (outq_same (nats l) (k + 1) i (by rw [hnd]; exact hxk))
              have hxz : ¬ (x : Int) = (k : Int) + 1 := by omega
              have hcs2 : Hid (fst (nats l) (k + 1) + cnt ((nats l).take i) (k + 1) = fst (nats l) (k + 1) + cnt ((nats l).take (i + 1)) (k + 1)) := Lib.hid (by rw [hcs, if_neg (fun e => hxk e.1)]; omega)
              clear hcs hnk hnd hxo hxk hct hle2
              generalize fst (nats l) (k + 1) + cnt ((nats l).take i) (k + 1) = q2 at *
              go_wp2
              go_roundg (l.length - (i + 1))
              case measure => omega
              case rel => exact ⟨i + 1, by omega, rfl, by go_num, by rw [hcs2.out], by rw [h2.out]; exact hR2, hU2⟩
          · have hcz2 : ¬ (i : Int) < (l.length : Int) := by omega
            have hi : i = (nats l).length := by omega
            have hq : Hid (fst (nats l) (k + 1) + cnt ((nats l).take i) (k + 1) = fst (nats l) (k + 1) + cnt (nats l) (k + 1)) := Lib.hid (by rw [hi, List.take_length])
            have hR3 : Row wr 32 1 (.slice (some ⟨g, 0, none⟩) (nats l).length (nats l).length) (nats l).length (u32s (outq (nats l) (k + 1 + 1) 0)) := by
              rw [hi] at hR2; rw [← outq_next]; exact hR2
            clear hi
            generalize fst (nats l) (k + 1) + cnt ((nats l).take i) (k + 1) = q2 at *
            go_wp2
            go_roundg (15 - (k + 1))
            case measure => omega
            case rel => exact ⟨k + 1, by omega, rfl, by go_num, by rw [hq.out], hR3, hU2⟩
      · have hk15 : k = 15 := by omega
        have hcz : ¬ (k : Int) + 1 ≤ 15 := by omega
        rw [hk15, outq_16 _ (nats_le HO.out), hnl] at hR
        clear hfs hle hp15 hk15
        generalize fst (nats l) k + cnt (nats l) k = q at *
        go_wp2
        go_returns
        exact ⟨hU, .inr ⟨H3.out, g, rfl, by rw [HG.out]; exact Nat.le_refl _, hR⟩⟩
end Go.Proofs.Ytcddlnmfdjfjfaa

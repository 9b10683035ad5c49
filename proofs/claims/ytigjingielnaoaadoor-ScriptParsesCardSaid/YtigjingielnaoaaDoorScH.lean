/- Package script: hex, bytes: their walks. -/
import Derived.Deep.QuietTactic
import Derived.BigQuiet
import Derived.StillTailTactics
import Derived.Deep.RegionLaw
import Derived.Test.YtigjingielnaoaaDoorQAN
namespace Go.Proofs.YtigjingielnaoaaDoor
set_option linter.unusedVariables false
set_option linter.unusedSimpArgs false
set_option linter.unusedSectionVars false
open Go.RowKit
attribute [local go_sem] Oper.semAt_some
set_option linter.unusedVariables false
set_option linter.unusedSimpArgs false

theorem isEmpty_of (S : ByteArray) : S.toList.isEmpty = decide (bytesOf S = []) := by
  rw [ByteArray.toList_eq]
  unfold bytesOf
  cases h : S.data.toList with
  | nil => rfl
  | cons a l => rfl
theorem and15_u8 (x : Nat) (h : x < 256) : bits .and .u8 (x : Int) 15 = ((x % 16 : Nat) : Int) := by
  show IntKind.u8.wrap ((BitVec.ofInt 8 (x : Int) &&& BitVec.ofInt 8 ((15 : Nat) : Int)).toNat : Int) = _
  rw [BitVec.toNat_and, ofInt_nat 8 x h, ofInt_nat 8 15 (by decide), show (15 : Nat) = 2 ^ 4 - 1 from rfl, Nat.and_two_pow_sub_one_eq_mod]
  exact wrap_u8_nat _ (by omega)
set_option maxRecDepth 100000 in
set_option maxHeartbeats 3200000 in
theorem shex_any (S : ByteArray) (w : World) (hs : S.size ≤ 65000) :
    Calls Tryd.prog 43 #[.string S] w fun e w' => e = .returned (.string (strOf (hexT (bytesOf S)))) ∧ Upd [] w w' := by
  obtain ⟨i0, hi, jz0, jz1, jz2⟩ := info_parts infoByte
  have HBL := Lib.hid (length_bytesOf S)
  have hem := isEmpty_of S
  go_enter Tryd.func43, Tryd.ntmps43
  by_cases h0 : bytesOf S = []
  · have hem2 : S.toList.isEmpty = true := by rw [hem]; exact decide_eq_true h0
    have HE : Hid (hexT (bytesOf S) = [45]) := Lib.hid (by unfold hexT; rw [if_pos h0])
    clear hem
    rw [HE.out]
    go_wp2
    go_ret
    exact ⟨rfl, Upd.refl _ _⟩
  · have hem2 : S.toList.isEmpty = false := by rw [hem]; exact decide_eq_false h0
    have HE : Hid (hexT (bytesOf S) = hexF (bytesOf S)) := Lib.hid (by unfold hexT; rw [if_neg h0])
    clear hem h0
    have hw2 : IntKind.i64.wrap (2 * (S.size : Int)) = ((2 * S.size : Nat) : Int) := by rw [IntWalk.i64_in _ (by omega)]; rfl
    have hb255 : ∀ (x : UInt8), x.toNat < 256 := fun x => x.toNat_lt
    go_wp2_with (refine wpList_make_own w rfl _ _ 85 rfl 0 5 i0 _ 1 Tryd.underlying85 hi jz0 jz1 .i64 .i64 ((2 * S.size : Nat) : Int) (2 * S.size) rfl rfl rfl (by rw [jz2]; omega) (by unfold maxLen; omega) (Nat.zero_le _) ?_; intro w1 hR1 hG1)
    have hU1 : Upd [] w w1 := (Upd.refl [] w).grown hG1 (by simp)
    have HR1 : Hid (Row w1 5 1 (.slice (some ⟨w.heap.size, 0, none⟩) 0 (2 * S.size)) 0 []) := Lib.hid hR1
    have HO1 : Hid (∀ k, (Value.slice (some ⟨w.heap.size, 0, none⟩) 0 (2 * S.size)).ownBlock = some k → w.heap.size ≤ k) := Lib.hid (fun k hk => by simp [Value.ownBlock] at hk; omega)
    have HU1 := Lib.hid hU1
    clear hR1 hG1 hU1
    go_wp2
    go_loopg [3, 13] 70000 (fun gg s3 s13 wr => ∃ i : Nat, i ≤ S.size ∧ gg = 70000 - i ∧ s13 = .int .i64 (i : Nat) ∧ Hid (Row wr 5 1 s3 (2 * i) (u8s (hexF ((bytesOf S).take i)))) ∧ Hid (∀ k, s3.ownBlock = some k → w.heap.size ≤ k) ∧ Hid (Upd [] w wr))
    case atStart => exact ⟨0, by omega, by omega, rfl, HR1, HO1, HU1⟩
    case round =>
      obtain ⟨i, hin, rfl, rfl, HR, HO, HU⟩ := hrel
      obtain ⟨va, vc, rfl⟩ := HR.out.form
      clear HR1 HO1 HU1
      by_cases hc : i < S.size
      · have hcz : (i : Int) < (S.size : Int) := by omega
        have hil : i < (bytesOf S).length := by rw [HBL.out]; exact hc
        have hw1 : IntKind.i64.wrap ((i : Int) + 1) = ((i + 1 : Nat) : Int) := by rw [IntWalk.i64_in _ (by omega)]; rfl
        have HB := Lib.hid (bytesOf_get S i hc hil)
        obtain ⟨x, hx⟩ : ∃ x : Nat, S[i].toNat = x := ⟨_, rfl⟩
        have hx256 : x < 256 := by rw [← hx]; exact S[i].toNat_lt
        go_upto_region 7 with fail
        obtain ⟨p, hp⟩ : ∃ p, x / 16 = p := ⟨_, rfl⟩
        obtain ⟨q, hq⟩ : ∃ q, x % 16 = q := ⟨_, rfl⟩
        have hpz : (x : Int) / 16 = (p : Int) := by omega
        have hqz : (x : Int) % 16 = (q : Int) := by omega
        have hp16 : p < 16 := by omega
        have hq16 : q < 16 := by omega
        have hg1 := hexes_get p hp16
        have hg2 := hexes_get q hq16
        unfold hexes at hg1 hg2
        have hsz : ({ data := #[48, 49, 50, 51, 52, 53, 54, 55, 56, 57, 97, 98, 99, 100, 101, 102] } : ByteArray).size = 16 := rfl
        have hpi : (p : Int) < 16 := by omega
        have hqi : (q : Int) < 16 := by omega
        have hand : bits .and .u8 (x : Int) 15 = (q : Int) := by rw [and15_u8 x hx256, hq]
        have HPQ := Lib.hid (And.intro hp hq)
        have HSN : Hid (u8s (hexF ((bytesOf S).take (i + 1))) = u8s (hexF ((bytesOf S).take i)) ++ [.int .u8 (hexd p : Nat), .int .u8 (hexd q : Nat)]) := Lib.hid (by
          rw [List.take_succ_eq_append_getElem hil, hexF_snoc, u8s_append, HB.out, hx, hp, hq]; rfl)
        clear hp hq
        go_region_law ((refine step_app _ (by rfl) _ _ 85 (by rfl) 5 i0 _ 1 1 Tryd.underlying85 hi jz0 jz1 jz2 rfl (by omega) (.slice va (2 * i) vc) (2 * i) _ (by rfl) (Row.alloc (Row.drew HR.out) _) ⟨wr.heap.size, 0, none⟩ 2 2 [_, _] (by rfl) (by rfl) (World.news_of_block (cs := #[_, _]) (t := 5) (fr := (0, 0)) (heap_alloc_new _ _)) (by simp [Value.oneCell']) (by unfold maxLen; omega) (by omega) ?_; intro v9 w9 hR9 hU9 hT9; obtain ⟨va9, vc9, rfl⟩ := hR9.form))
        all_goals (try simp only [Act.put, List.setIfInBounds_toArray, List.set_cons_zero, List.set_cons_succ])
        all_goals go_wp2
        all_goals go_roundg (70000 - (i + 1))
        all_goals first
          | omega
          | exact ⟨i + 1, by omega, by first | rfl | omega, by first | rfl | go_num, Lib.hid (by rw [HSN.out, show 2 * (i + 1) = 2 * i + 2 by omega]; exact hR9), Lib.hid (fun k hk => by
              rcases hT9 with e | ⟨g, e, hg⟩
              · exact HO.out k (by rw [← e]; exact hk)
              · rw [hk] at e; cases e; have := HU.out.size; simp at hg; omega), Lib.hid (by first | exact ((HU.out.drew.alloc _).trans hU9 (fun k hk => .inr (HO.out k (by simpa using hk)))) | exact ((HU.out.alloc _).drew.trans hU9 (fun k hk => .inr (HO.out k (by simpa using hk)))))⟩
      · obtain rfl : i = S.size := by omega
        have hcz : ¬ (S.size : Int) < (S.size : Int) := by omega
        have hcv := run_conv_row (P := Tryd.prog) wr 85 9 5 Tryd.underlying85 Tryd.underlying5 Tryd.underlying9 HR.out
        rw [List.take_of_length_le (by rw [HBL.out]; exact Nat.le_refl _)] at hcv
        go_wp2
        go_ret
        exact ⟨by rw [HE.out]; rfl, HU.out⟩
theorem infoByteL : (Tryd.prog.info? 5).map (fun i => (i.zero, i.size, i.bytes)) = some (some (.int .u8 0), 1, 1) := by kernel_rfl
theorem mkBytes4 (n : Nat) (hn : n ≤ 1000000) (w : World) : (Instr.makeSlice 85 (.int .i64 (n : Int)) (.int .i64 (n : Int))).run Tryd.prog w = .ok (.slice (some ⟨w.heap.size, 0, none⟩) n n) (w.alloc (.cells (u8s (List.replicate n 0)).toArray 5)) := by
  obtain ⟨i0, hi, hz0, hz1, hz2⟩ := info_parts infoByteL
  have h := run_make (P := Tryd.prog) w 85 5 i0 _ Tryd.underlying85 hi hz0 .i64 .i64 (n : Int) (n : Int) (by omega) (by omega) (by rw [hz2]; omega) (by omega)
  rw [h, hz1]
  have e : madeCells (Value.int .u8 0).cells ((n : Int).toNat * 1) = (u8s (List.replicate n 0)).toArray := by
    apply Array.toList_inj.1
    rw [show (Value.int .u8 0).cells = #[Value.int .u8 0] from rfl, toList_madeCells_one]
    simp [u8s]
  rw [e]
  rfl
theorem hexIx_of (c : UInt8) : max (Lib.indexByte hexes.data.toList c) 0 = ((hexIx c.toNat : Nat) : Int) := by
  unfold hexIx
  rw [UInt8.ofNat_toNat]
  omega
set_option maxRecDepth 100000 in
set_option maxHeartbeats 3200000 in
theorem sbytes_any (S : ByteArray) (w : World) (hs : S.size ≤ 1000000) :
    Calls Tryd.prog 40 #[.string S] w fun e w' => e = .returned (.string (strOf (bytesP (bytesOf S)))) ∧ Upd [] w w' := by
  have HBL := Lib.hid (length_bytesOf S)
  obtain ⟨n, hn⟩ : ∃ n, S.size / 2 = n := ⟨_, rfl⟩
  have hnz : (S.size : Int) / 2 = (n : Int) := by omega
  have hn2 : 2 * n ≤ S.size := by omega
  have hnb : n ≤ 500000 := by omega
  have HBP : Hid (bytesP (bytesOf S) = bytesN (bytesOf S) n) := Lib.hid (by unfold bytesP; rw [length_bytesOf, hn])
  have hm1 : ∀ w, (Instr.makeSlice 85 (.int .i64 (n : Nat)) (.int .i64 (n : Nat))).run Tryd.prog w = .ok (.slice (some ⟨w.heap.size, 0, none⟩) n n) (w.alloc (.cells (u8s (List.replicate n 0)).toArray 5)) := fun w => mkBytes4 n (by omega) w
  obtain ⟨Z0, hZ0⟩ : ∃ Z0 : List Nat, List.replicate n 0 = Z0 := ⟨_, rfl⟩
  rw [hZ0] at hm1
  have HZ0 := Lib.hid hZ0
  have hzl : Z0.length = n := by rw [← hZ0]; exact List.length_replicate
  have HR0 := Lib.hid (Row.new w (u8s Z0) 5 n 1 (by unfold maxLen; omega) (by rw [length_u8s, hzl, Nat.mul_one]))
  have HU0 := Lib.hid ((Upd.refl [] w).alloc (.cells (u8s Z0).toArray 5))
  clear hzl hZ0 hn
  go_enter Tryd.func40, Tryd.ntmps40
  go_upto_region 2 with fail
  generalize w.alloc (.cells (u8s Z0).toArray 5) = w1 at *
  obtain ⟨ob, hob⟩ : ∃ ob, w.heap.size = ob := ⟨_, rfl⟩
  rw [hob] at HR0 ⊢
  have hobw : w.heap.size ≤ ob := by omega
  clear hob hm1
  go_wp2
  go_loopg [13] n (fun gg s13 wr => ∃ i : Nat, i ≤ n ∧ gg = n - i ∧ s13 = .int .i64 (i : Nat) ∧ Hid (Row wr 5 1 (.slice (some ⟨ob, 0, none⟩) n n) n (u8s (bytesN (bytesOf S) i ++ List.replicate (n - i) 0))) ∧ Hid (Upd [] w wr))
  case atStart => exact ⟨0, by omega, by omega, rfl, Lib.hid (by have := HR0.out; rw [← HZ0.out] at this; exact this), HU0⟩
  case round =>
    obtain ⟨i, hin, rfl, rfl, HR, HU⟩ := hrel
    clear HR0 HU0
    by_cases hc : i < n
    · have hcz : (i : Int) < (n : Int) := by omega
      have hw1 : IntKind.i64.wrap ((i : Int) + 1) = ((i + 1 : Nat) : Int) := by rw [IntWalk.i64_in _ (by omega)]; rfl
      obtain ⟨p, hp⟩ : ∃ p, 2 * i = p := ⟨_, rfl⟩
      obtain ⟨q, hq⟩ : ∃ q, 2 * i + 1 = q := ⟨_, rfl⟩
      have hpw : IntKind.i64.wrap (2 * (i : Int)) = (p : Int) := by rw [IntWalk.i64_in _ (by omega)]; omega
      have hqw : IntKind.i64.wrap ((p : Int) + 1) = (q : Int) := by rw [IntWalk.i64_in _ (by omega)]; omega
      have hps : p < S.size := by omega
      have hqs : q < S.size := by omega
      have hpz : (p : Int) < (S.size : Int) := by omega
      have hqz : (q : Int) < (S.size : Int) := by omega
      have HI1 := Lib.hid (fun w => indexB_any hexes S[p] w)
      have HI2 := Lib.hid (fun w => indexB_any hexes S[q] w)
      have h1 := hexIx_of S[p]
      have h2 := hexIx_of S[q]
      have hx1 := hexIx_lt S[p].toNat
      have hx2 := hexIx_lt S[q].toNat
      have HST : Hid (bytesN (bytesOf S) (i + 1) = bytesN (bytesOf S) i ++ [(16 * hexIx S[p].toNat + hexIx S[q].toNat) % 256]) := Lib.hid (by
        rw [show bytesN (bytesOf S) (i + 1) = bytesN (bytesOf S) i ++ [pairB ((bytesOf S).getD (2 * i) 0) ((bytesOf S).getD (2 * i + 1) 0)] from rfl, hp, show p + 1 = q by omega]
        have e1 := bytesOf_get S p hps (by rw [length_bytesOf]; exact hps)
        have e2 := bytesOf_get S q hqs (by rw [length_bytesOf]; exact hqs)
        rw [List.getD_eq_getElem?_getD, List.getElem?_eq_getElem (by rw [length_bytesOf]; exact hps), Option.getD_some, e1, List.getD_eq_getElem?_getD, List.getElem?_eq_getElem (by rw [length_bytesOf]; exact hqs), Option.getD_some, e2]
        rfl)
      generalize hexIx S[p].toNat = y1 at *
      generalize hexIx S[q].toNat = y2 at *
      generalize Lib.indexByte hexes.data.toList S[p] = J1 at *
      generalize Lib.indexByte hexes.data.toList S[q] = J2 at *
      unfold hexes at HI1 HI2
      have hw5 : IntKind.i64.wrap (16 * (y1 : Int)) = 16 * (y1 : Int) := by rw [IntWalk.i64_in _ (by omega)]
      have hw6 : IntKind.i64.wrap (16 * (y1 : Int) + (y2 : Int)) = 16 * (y1 : Int) + (y2 : Int) := by rw [IntWalk.i64_in _ (by omega)]
      obtain ⟨z, hz⟩ : ∃ z : Nat, (16 * y1 + y2) % 256 = z := ⟨_, rfl⟩
      have hzw : 16 * (y1 : Int) + (y2 : Int) = (z : Int) := by omega
      have hz256 : (z : Int) < 256 := by omega
      rw [hz] at HST
      clear hp hq hz
      obtain ⟨u, hu⟩ : ∃ u, (u8s (bytesN (bytesOf S) i ++ List.replicate (n - i) 0))[i]? = some u := ⟨_, List.getElem?_eq_getElem (by rw [length_u8s, List.length_append, bytesN_len, List.length_replicate]; omega)⟩
      have ci := HR.out.cell i hu
      have fi := HR.out.frz i
      clear hu
      go_upto_region 5 with fail
      go_quiet (first | (go_at_call 57; exact Calls.quiet_of_same ((HI1.out _).mono fun _ _ ⟨h1, h2⟩ => ⟨h1, h2.symm⟩)) | (go_at_call 57; exact Calls.quiet_of_same ((HI2.out _).mono fun _ _ ⟨h1, h2⟩ => ⟨h1, h2.symm⟩)))
      have HR2 := Lib.hid (Row.drewN HR.out nq)
      have HU2 := Lib.hid (HU.out.drewN nq)
      clear HR HU ci fi HI1 HI2
      generalize wr.drewN nq = w2 at *
      have hL : (bytesN (bytesOf S) i).length = i := bytesN_len _ _
      have hset : ((u8s (bytesN (bytesOf S) i ++ List.replicate (n - i) 0)).set i (.int .u8 (z : Nat))) = u8s (bytesN (bytesOf S) (i + 1) ++ List.replicate (n - (i + 1)) 0) := by
        rw [HST.out, show n - i = (n - (i + 1)) + 1 by omega, List.replicate_succ]
        unfold u8s
        rw [← List.map_set, List.set_append_right _ _ (by omega), hL, Nat.sub_self, List.set_cons_zero]
        simp
      obtain ⟨u, hu⟩ : ∃ u, (u8s (bytesN (bytesOf S) i ++ List.replicate (n - i) 0))[i]? = some u := ⟨_, List.getElem?_eq_getElem (by rw [length_u8s, List.length_append, bytesN_len, List.length_replicate]; omega)⟩
      have ci := HR2.out.cell i hu
      have fi := HR2.out.frz i
      have hR3 := HR2.out.set i (.int .u8 (z : Nat))
      rw [hset] at hR3
      have HR3 := Lib.hid hR3
      have HU3 := Lib.hid (HU2.out.setCell (p := ⟨ob, i, none⟩) (.inr hobw) (.int .u8 (z : Nat)))
      clear hu hset hR3 hL
      go_wp2
      go_roundg (n - (i + 1))
      · exact ⟨i + 1, by omega, by first | rfl | omega, by first | rfl | go_num, HR3, HU3⟩
      · omega
    · obtain rfl : i = n := by omega
      have hcz : ¬ (i : Int) < (i : Int) := by omega
      have hR := HR.out
      rw [Nat.sub_self, List.replicate_zero, List.append_nil] at hR
      have hcv := run_conv_row (P := Tryd.prog) wr 85 9 5 Tryd.underlying85 Tryd.underlying5 Tryd.underlying9 hR
      clear hR
      go_wp2
      go_ret
      exact ⟨by rw [HBP.out]; rfl, HU.out⟩
end Go.Proofs.YtigjingielnaoaaDoor

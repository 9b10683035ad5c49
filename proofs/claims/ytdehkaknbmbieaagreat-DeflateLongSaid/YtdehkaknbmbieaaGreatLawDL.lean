/- DeflateLong: the law's walk. -/
import Derived.Test.YtdehkaknbmbieaaGreatQBX
namespace Go.Proofs.YtdehkaknbmbieaaGreat
set_option linter.unusedVariables false
set_option linter.unusedSimpArgs false
set_option linter.unusedSectionVars false
open Go.RowKit
attribute [local go_sem] Oper.semAt_some
set_option linter.unusedVariables false
set_option linter.unusedSimpArgs false

theorem infoByteL : (Tryz.prog.info? 5).map (fun i => (i.zero, i.size, i.bytes)) = some (some (.int .u8 0), 1, 1) := by kernel_rfl
theorem mkBytes (n : Nat) (hn : n ≤ 1000000) (w : World) : (Instr.makeSlice 28 (.int .i64 (n : Int)) (.int .i64 (n : Int))).run Tryz.prog w = .ok (.slice (some ⟨w.heap.size, 0, none⟩) n n) (w.alloc (.cells (u8s (List.replicate n 0)).toArray 5)) := by
  obtain ⟨i0, hi, hz0, hz1, hz2⟩ := info_parts infoByteL
  have h := run_make (P := Tryz.prog) w 28 5 i0 _ Tryz.underlying28 hi hz0 .i64 .i64 (n : Int) (n : Int) (by omega) (by omega) (by rw [hz2]; omega) (by omega)
  rw [h, hz1]
  have e : madeCells (Value.int .u8 0).cells ((n : Int).toNat * 1) = (u8s (List.replicate n 0)).toArray := by
    apply Array.toList_inj.1
    rw [show (Value.int .u8 0).cells = #[Value.int .u8 0] from rfl, toList_madeCells_one]
    simp [u8s]
  rw [e]
  rfl
set_option maxRecDepth 100000 in
set_option maxHeartbeats 6400000 in
theorem law_deflateLong (S : ByteArray) (N : Nat) (w : World) (hS : S.size ≤ 9223372036854775807) (hN : N ≤ 18446744073709551615) :
    Calls Tryz.prog 6 #[.string S, .int .u64 (N : Nat)] w fun e w' => LivesP w e w' := by
  obtain ⟨K, hK⟩ : ∃ K, 8000 * (N % 4) + N % 1000 = K := ⟨_, rfl⟩
  have hK25 : K ≤ 25000 := by omega
  have hKi : 8000 * ((N : Int) % 4) + (N : Int) % 1000 = (K : Int) := by omega
  have hm1 : ∀ w, (Instr.makeSlice 28 (.int .i64 (K : Nat)) (.int .i64 (K : Nat))).run Tryz.prog w = .ok (.slice (some ⟨w.heap.size, 0, none⟩) K K) (w.alloc (.cells (u8s (List.replicate K 0)).toArray 5)) := fun w => mkBytes K (by omega) w
  obtain ⟨Z0, hZ0⟩ : ∃ Z0 : List Nat, List.replicate K 0 = Z0 := ⟨_, rfl⟩
  have hz0l : Z0.length = K := by rw [← hZ0]; exact List.length_replicate
  have hz0b : ∀ b ∈ Z0, b < 256 := by rw [← hZ0]; intro b hb; rw [List.eq_of_mem_replicate hb]; omega
  rw [hZ0] at hm1
  have HR0 := Lib.hid (Row.new w (u8s Z0) 5 K 1 (by unfold maxLen; omega) (by rw [length_u8s, hz0l, Nat.mul_one]))
  have HU0 := Lib.hid ((Upd.refl [] w).alloc (.cells (u8s Z0).toArray 5))
  have HZ0 := Lib.hid (And.intro hz0l hz0b)
  clear hz0l hz0b hZ0 hK
  go_enter Tryz.func6, Tryz.ntmps6
  go_upto_region 3 with fail
  generalize w.alloc (.cells (u8s Z0).toArray 5) = w1 at *
  obtain ⟨ob, hob⟩ : ∃ ob, w.heap.size = ob := ⟨_, rfl⟩
  rw [hob] at HR0 ⊢
  have hobw : w.heap.size ≤ ob := by omega
  clear hob hm1 hKi
  go_wp2
  go_loopg [29] K (fun gg s29 wr => ∃ (i : Nat) (bs : List Nat), i ≤ K ∧ gg = K - i ∧ s29 = .int .i64 (i : Nat) ∧ Hid (bs.length = K ∧ ∀ b ∈ bs, b < 256) ∧ Hid (Row wr 5 1 (.slice (some ⟨ob, 0, none⟩) K K) K (u8s bs)) ∧ Hid (Upd [] w wr))
  case atStart => exact ⟨0, Z0, by omega, by omega, rfl, HZ0, HR0, HU0⟩
  case round =>
    obtain ⟨i, bs, hiK, rfl, rfl, HB, HR, HU⟩ := hrel
    clear HZ0 HR0 HU0
    by_cases hc : i < K
    · have hcz : (i : Int) < (K : Int) := by omega
      have hil : i < bs.length := by rw [HB.out.1]; exact hc
      have ci := HR.out.cell i (u := .int .u8 (bs[i] : Nat)) (by unfold u8s; rw [List.getElem?_map, List.getElem?_eq_getElem hil]; rfl)
      have fi := HR.out.frz i
      have hw1 : IntKind.i64.wrap ((i : Int) + 1) = ((i + 1 : Nat) : Int) := by rw [IntWalk.i64_in _ (by omega)]; rfl
      go_upto_if 42 with fail
      have hz0 : 0 ≤ wrap64 ((i : Int) * (i : Int)) / 8 % 256 := Int.emod_nonneg _ (by decide)
      have hz1 : wrap64 ((i : Int) * (i : Int)) / 8 % 256 < 256 := Int.emod_lt_of_pos _ (by decide)
      generalize wrap64 ((i : Int) * (i : Int)) / 8 % 256 = zz at *
      obtain ⟨z, rfl⟩ : ∃ z : Nat, zz = (z : Int) := ⟨zz.toNat, by omega⟩
      have hz2 : z < 256 := by omega
      have hset : ∀ x : Nat, (u8s bs).set i (.int .u8 (x : Nat)) = u8s (bs.set i x) := fun x => by simp [u8s, List.map_set]
      have hbset : ∀ x : Nat, x < 256 → (bs.set i x).length = K ∧ ∀ b ∈ bs.set i x, b < 256 := fun x hx => ⟨by rw [List.length_set]; exact HB.out.1, fun b hb => by
        rcases List.mem_or_eq_of_mem_set hb with h | h
        · exact HB.out.2 b h
        · rw [h]; exact hx⟩
      have hR2 := HR.out.set i (.int .u8 (z : Nat))
      rw [hset z] at hR2
      have HR2 := Lib.hid hR2
      have HU2 := Lib.hid (HU.out.setCell (p := ⟨ob, i, none⟩) (.inr hobw) (.int .u8 (z : Nat)))
      have HSET := Lib.hid hset
      have HBSET := Lib.hid hbset
      clear hz0 hz1 hset hbset hR2 ci fi HR HU
      generalize wr.setCell ⟨ob, i, none⟩ (.int .u8 (z : Nat)) = w2 at *
      by_cases hs0 : S.size = 0
      · have hs0z : decide (0 < S.size) = false := decide_eq_false (by omega)
        rw [hs0z]
        go_wp2
        go_roundg (K - (i + 1))
        · exact ⟨i + 1, bs.set i z, by omega, by omega, by first | rfl | go_num, Lib.hid (HBSET.out z hz2), HR2, HU2⟩
        · omega
      · have hs0z : decide (0 < S.size) = true := decide_eq_true (by omega)
        rw [hs0z]
        have hil2 : i < (bs.set i z).length := by rw [List.length_set]; exact hil
        have ci : w2.cell? ⟨ob, i, none⟩ = some (.int .u8 (z : Nat)) := HR2.out.cell i (by unfold u8s; rw [List.getElem?_map, List.getElem?_set_self hil]; rfl)
        have fi := HR2.out.frz i
        obtain ⟨r, hr⟩ : ∃ r, i % S.size = r := ⟨_, rfl⟩
        have hrS : r < S.size := by rw [← hr]; exact Nat.mod_lt _ (by omega)
        have hrz : (r : Int) < (S.size : Int) := by omega
        have hri : (i : Int) % (S.size : Int) = (r : Int) := by rw [← hr]; omega
        have hrt : (i : Int).tmod (S.size : Int) = (r : Int) := by rw [Int.tmod_eq_emod_of_nonneg (by omega), hri]
        have hsp : (0 : Int) < (S.size : Int) := by omega
        have hsn : ¬ (S.size : Int) = 0 := by omega
        clear hr hil2
        go_wp2_with fail
        go_region
        obtain ⟨x, hx⟩ : ∃ x : Nat, ((z : Int) + (S[r].toNat : Nat)) % 256 = (x : Int) := ⟨(z + S[r].toNat) % 256, by omega⟩
        have hx2 : x < 256 := by omega
        rw [hx]
        clear hx
        have hR3 := (HR2.out.set i (.int .u8 (x : Nat))).drew
        have he : (u8s (bs.set i z)).set i (.int .u8 (x : Nat)) = u8s (bs.set i x) := by simp [u8s, List.map_set]
        rw [he] at hR3
        have HR3 := Lib.hid hR3
        have HU3 := Lib.hid ((HU2.out.setCell (p := ⟨ob, i, none⟩) (.inr hobw) (.int .u8 (x : Nat))).drew)
        clear hR3 he HR2 HU2 ci fi hri hrt
        generalize (w2.setCell ⟨ob, i, none⟩ (.int .u8 (x : Nat))).drew = w3 at *
        go_wp2
        go_roundg (K - (i + 1))
        · exact ⟨i + 1, bs.set i x, by omega, by omega, by first | rfl | go_num, Lib.hid (HBSET.out x hx2), HR3, HU3⟩
        · omega
    · obtain rfl : i = K := by omega
      have hcz : ¬ (i : Int) < (i : Int) := by omega
      go_upto_region 10 with fail
      obtain ⟨T, hT⟩ : ∃ T, strOf bs = T := ⟨_, rfl⟩
      have hTs : T.size = i := by rw [← hT, size_strOf]; exact HB.out.1
      have HCV := Lib.hid (fun W (h : Upd [] wr W) => run_conv_row (P := Tryz.prog) W 28 9 5 Tryz.underlying28 Tryz.underlying5 Tryz.underlying9 (HR.out.upd h (by simp)))
      rw [hT] at HCV
      have HDF := Lib.hid (dof_any T 1 wr (by omega) (by omega))
      have HTS := Lib.hid hTs
      have hmk : mostK ((i : Nat) : Int) = i := by unfold mostK; omega
      have HMT := Lib.hid (dmost_any ((i : Nat) : Int))
      rw [hmk] at HMT
      obtain ⟨Y, hY⟩ : ∃ Y, i + 6 * rowsN i = Y := ⟨_, rfl⟩
      rw [hY] at HMT
      have HY := Lib.hid hY
      have hYb : Y ≤ 100000 := by rw [← hY]; unfold rowsN; split <;> omega
      clear hmk hT hTs hY HR
      have hcv := HCV.out wr (Upd.refl _ _)
      go_wp2_with fail
      refine HDF.out.mono ?_
      rintro e w3 ⟨X, rfl, hbk, hx1, -, hU3⟩
      have hxy : ((X.size : Nat) : Int) ≤ (Y : Int) := by rw [HTS.out, HY.out] at hx1; omega
      have hv1 := hbk.val 65000 (by have := HTS.out; rw [show (65000 : Int) = ((65000 : Nat) : Int) from rfl, capI_nat _ (by omega)]; omega)
      have HQX := Lib.hid (qof_any X 65000 w3 (by omega))
      rw [hv1] at HQX
      have HU3 := Lib.hid hU3
      clear hbk hx1 hv1 hU3 hcv HDF
      go_wp2_with fail
      refine HQX.out.mono ?_
      rintro e w4 ⟨rfl, hU4⟩
      have HU4 := Lib.hid (HU3.out.then hU4)
      clear hU4 HQX
      have hcv := HCV.out w4 HU4.out
      have HDS := Lib.hid (dstored_any T w4 (by have := HTS.out; omega))
      go_wp2_with fail
      refine HDS.out.mono ?_
      rintro e w5 ⟨X2, rfl, hbk, -, hx2, hU5⟩
      have hv1 := hbk.val 65000 (by have := HTS.out; rw [show (65000 : Int) = ((65000 : Nat) : Int) from rfl, capI_nat _ (by omega)]; omega)
      have HQX := Lib.hid (qof_any X2 65000 w5 (by omega))
      rw [hv1] at HQX
      have HU5 := Lib.hid (HU4.out.then hU5)
      clear hbk hx2 hv1 hU5 hcv HDS
      go_wp2_with fail
      refine HQX.out.mono ?_
      rintro e w6 ⟨rfl, hU6⟩
      have HU6 := Lib.hid (HU5.out.then hU6)
      clear hU6 HQX
      obtain ⟨KB, hKB⟩ : ∃ KB : Nat, KB = 65001 := ⟨_, rfl⟩
      obtain ⟨ZL, hZL⟩ : ∃ ZL : List Nat, List.replicate KB 0 = ZL := ⟨_, rfl⟩
      have hzl : ZL.length = KB := by rw [← hZL]; exact List.length_replicate
      have hmk : (Instr.makeSlice 28 (.int .i64 65001) (.int .i64 65001)).run Tryz.prog w6 = .ok (.slice (some ⟨w6.heap.size, 0, none⟩) KB KB) (w6.alloc (.cells (u8s ZL).toArray 5)) := by
        have := mkBytes KB (by omega) w6
        rw [hZL, show ((KB : Nat) : Int) = 65001 by omega] at this
        exact this
      have hcz := run_conv_row (P := Tryz.prog) (w6.alloc (.cells (u8s ZL).toArray 5)) 28 9 5 Tryz.underlying28 Tryz.underlying5 Tryz.underlying9 (Row.new w6 (u8s ZL) 5 KB 1 (by unfold maxLen; omega) (by rw [length_u8s, hzl, Nat.mul_one]))
      have HUZ := Lib.hid (HU6.out.alloc (.cells (u8s ZL).toArray 5))
      have hcv := HCV.out _ HUZ.out
      have hlb : 65000 < (strOf ZL).size := by rw [size_strOf]; omega
      have HLO := Lib.hid (fun w => dof_long (strOf ZL) 1 w hlb)
      have HLS := Lib.hid (fun w => dstored_long (strOf ZL) w hlb)
      clear hlb hZL hzl hKB
      obtain ⟨LB, hLB⟩ : ∃ LB, strOf ZL = LB := ⟨_, rfl⟩
      rw [hLB] at hcz HLO HLS
      clear hLB
      go_upto_region 15 with fail
      generalize w6.alloc (.cells (u8s ZL).toArray 5) = w7 at *
      clear hmk hcz
      go_wp2_with fail
      refine (HMT.out _).mono ?_
      rintro e w8 ⟨rfl, hw8⟩
      subst hw8
      go_wp2_with fail
      refine (HLO.out _).mono ?_
      rintro e w8 ⟨rfl, hw8⟩
      subst hw8
      go_wp2_with fail
      refine (HLS.out _).mono ?_
      rintro e w8 ⟨rfl, hw8⟩
      subst hw8
      go_wp2_with fail
      refine (lives11_any _).mono ?_
      rintro e w9 ⟨rfl, hU9⟩
      have HU9 := Lib.hid ((HU.out.then HUZ.out).then hU9)
      clear hU9
      go_wp2
      go_ret
      exact ⟨rfl, HU9.out⟩
end Go.Proofs.YtdehkaknbmbieaaGreat

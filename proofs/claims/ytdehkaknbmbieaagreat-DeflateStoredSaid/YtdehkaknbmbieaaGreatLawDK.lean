/- DeflateBack, DeflateStored: the laws' walks. -/
import Derived.Test.YtdehkaknbmbieaaGreatQBR
import Derived.Test.YtdehkaknbmbieaaGreatQBM
import Derived.Test.YtdehkaknbmbieaaGreatLawOf
import Derived.Test.YtdehkaknbmbieaaGreatQBP
namespace Go.Proofs.YtdehkaknbmbieaaGreat
set_option linter.unusedVariables false
set_option linter.unusedSimpArgs false
set_option linter.unusedSectionVars false
open Go.RowKit
attribute [local go_sem] Oper.semAt_some
set_option linter.unusedVariables false
set_option linter.unusedSimpArgs false

theorem cut_size (S : ByteArray) (m : Nat) (h : m ≤ S.size) : (S.extract 0 m).size = m := by rw [ByteArray.size_extract]; omega
theorem capI_nat (m : Nat) (h : m ≤ 65000) : capI (m : Int) = m := by unfold capI; omega
set_option maxRecDepth 100000 in
set_option maxHeartbeats 6400000 in
theorem law_deflateStored (S : ByteArray) (n lv : Int) (w : World) (hlv : -9223372036854775808 ≤ lv ∧ lv ≤ 9223372036854775807) (hS : S.size ≤ 9223372036854775807) :
    Calls Tryz.prog 4 #[.string S, .int .i64 n, .int .i64 lv] w fun e w' => LivesP w e w' := by
  obtain ⟨m, hm⟩ : ∃ m : Nat, min (S.size : Int) 500 = (m : Int) := ⟨min S.size 500, by omega⟩
  have hmS : m ≤ S.size := by omega
  have hm5 : m ≤ 500 := by omega
  have hmz : (m : Int) ≤ (S.size : Int) := by omega
  have hm0 : (0 : Int) ≤ (m : Int) := by omega
  obtain ⟨T, hT⟩ : ∃ T, S.extract 0 m = T := ⟨_, rfl⟩
  have hTm : T.size = m := by rw [← hT]; exact cut_size S m hmS
  have HDF := Lib.hid (fun w => dof_any T lv w (by omega) hlv)
  have HDS := Lib.hid (fun w => dstored_any T w (by omega))
  have HTM := Lib.hid hTm
  have HMT := Lib.hid (dmost_any n)
  obtain ⟨K, hK⟩ : ∃ K, mostK n = K := ⟨_, rfl⟩
  have hKn : max 0 (min n 65000) = (K : Int) := by rw [← hK]; unfold mostK; omega
  have hK65 : K ≤ 65000 := by omega
  obtain ⟨R, hR⟩ : ∃ R, rowsN K = R := ⟨_, rfl⟩
  have hR9 : R ≤ 9 := by rw [← hR]; unfold rowsN; split <;> omega
  have hRK : max 1 (((K : Int) + 7999) / 8000) = (R : Int) := by rw [← hR]; unfold rowsN; split <;> omega
  have hw1 : IntKind.i64.wrap ((K : Int) + 7999) = (K : Int) + 7999 := by rw [IntWalk.i64_in _ (by omega)]
  rw [hK, hR] at HMT
  clear hK hR hTm
  go_enter Tryz.func4, Tryz.ntmps4
  go_wp2_with fail
  (try rw [hT])
  refine (HDS.out _).mono ?_
  rintro e w1 ⟨X, rfl, hbk, hx1, hx2, hU1⟩
  have hv1 := hbk.val 65000 (by have := HTM.out; rw [show (65000 : Int) = ((65000 : Nat) : Int) from rfl, capI_nat _ (by omega)]; omega)
  have hx5 : X.size = T.size + 5 := hx1 (by rw [HTM.out]; omega)
  have HRO := Lib.hid (fun w => rof_any X 65000 w (by omega))
  rw [hv1] at HRO
  have HU1 := Lib.hid hU1
  have HX5 := Lib.hid hx5
  obtain ⟨xs, hxs⟩ : ∃ xs, X.size = xs := ⟨_, rfl⟩
  obtain ⟨ts, hts⟩ : ∃ ts, T.size = ts := ⟨_, rfl⟩
  have hts5 : ts ≤ 500 := by rw [← hts, HTM.out]; exact hm5
  rw [hxs, hts] at hx5
  have hxw : IntKind.i64.wrap ((ts : Int) + 5) = (xs : Int) := by rw [IntWalk.i64_in _ (by omega)]; omega
  have HXT := Lib.hid hx5
  rw [hxs] at HRO
  clear hv1 hbk hx1 hx2 hU1 hx5 HDS hT
  go_wp2_with fail
  refine (HRO.out _).mono ?_
  rintro e w2 ⟨rfl, hU2⟩
  have HU2 := Lib.hid (HU1.out.then hU2)
  clear hU2 HRO
  go_wp2_with fail
  refine (HDF.out _).mono ?_
  rintro e w3 ⟨X2, rfl, hbk, hy1, hy2, hU3⟩
  have HU3 := Lib.hid (HU2.out.then hU3)
  have hle : ((X2.size : Nat) : Int) ≤ (xs : Int) := by have := hy2 (by rw [hts]; omega); have := HXT.out; omega
  clear hU3 hbk hy1 hy2 HDF
  go_wp2_with fail
  refine (HMT.out _).mono ?_
  rintro e w4 ⟨rfl, hw4⟩
  subst hw4
  clear HMT
  go_wp2_with fail
  refine (lives11_any _).mono ?_
  rintro e w5 ⟨rfl, hU5⟩
  have HU5 := Lib.hid (HU3.out.then hU5)
  clear hU5
  go_wp2
  go_ret
  exact ⟨rfl, HU5.out⟩
end Go.Proofs.YtdehkaknbmbieaaGreat

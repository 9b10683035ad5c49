/- Package name: letter. -/
import Derived.Test.YtibmhadnfggmlaaDoorNameP
import Derived.WalkKit
import Derived.Handy
import Derived.Lib.Hide
import Derived.Test.YtibmhadnfggmlaaDoorProg
namespace Go.Proofs.YtibmhadnfggmlaaDoor
open Go.RowKit

def letV (p : Nat × Nat × Nat) : Value := .tuple #[.int .i64 (p.1 : Nat), .int .u8 (p.2.1 : Nat), .int .u8 (p.2.2 : Nat)]
set_option maxRecDepth 100000 in
set_option maxHeartbeats 4000000 in
theorem letter_any (s : ByteArray) (w : World) (h : 0 < s.size) (hs : s.size ≤ 9223372036854775807) : Calls Tryd.prog 160 #[.string s] w fun e w' =>
    e = .returned (letV (letterP s[0].toNat)) ∧ w = w' := by
  have hlt := s[0].toNat_lt
  have ways : (s[0].toNat < 128) ∨ (128 ≤ s[0].toNat ∧ s[0].toNat < 194) ∨ (194 ≤ s[0].toNat ∧ s[0].toNat ≤ 223) ∨ (s[0].toNat = 224) ∨ (225 ≤ s[0].toNat ∧ s[0].toNat < 237) ∨ (s[0].toNat = 237) ∨ (238 ≤ s[0].toNat ∧ s[0].toNat ≤ 239) ∨ (s[0].toNat = 240) ∨ (241 ≤ s[0].toNat ∧ s[0].toNat ≤ 243) ∨ (s[0].toNat = 244) ∨ (245 ≤ s[0].toNat) := by omega
  rcases ways with h0 | h0 | h0 | h0 | h0 | h0 | h0 | h0 | h0 | h0 | h0
  · have HV : Hid (letterP s[0].toNat = (1, 0, 0)) := Lib.hid (by
      unfold letterP
      repeat' split
      all_goals first | rfl | (exfalso; omega))
    rw [HV.out]
    go_enter Tryd.func160, Tryd.ntmps160
    go_wp2
    all_goals first
      | (go_ret; exact ⟨rfl, rfl⟩)
      | (refine bodyPost_ret (results_tmp3 rfl _ _ _) rfl ⟨rfl, rfl⟩)
      | (exfalso; omega)
  · have HV : Hid (letterP s[0].toNat = (0, 0, 0)) := Lib.hid (by
      unfold letterP
      repeat' split
      all_goals first | rfl | (exfalso; omega))
    rw [HV.out]
    go_enter Tryd.func160, Tryd.ntmps160
    go_wp2
    all_goals first
      | (go_ret; exact ⟨rfl, rfl⟩)
      | (refine bodyPost_ret (results_tmp3 rfl _ _ _) rfl ⟨rfl, rfl⟩)
      | (exfalso; omega)
  · have HV : Hid (letterP s[0].toNat = (2, 128, 191)) := Lib.hid (by
      unfold letterP
      repeat' split
      all_goals first | rfl | (exfalso; omega))
    rw [HV.out]
    go_enter Tryd.func160, Tryd.ntmps160
    go_wp2
    all_goals first
      | (go_ret; exact ⟨rfl, rfl⟩)
      | (refine bodyPost_ret (results_tmp3 rfl _ _ _) rfl ⟨rfl, rfl⟩)
      | (exfalso; omega)
  · have HV : Hid (letterP s[0].toNat = (3, 160, 191)) := Lib.hid (by
      unfold letterP
      repeat' split
      all_goals first | rfl | (exfalso; omega))
    rw [HV.out]
    go_enter Tryd.func160, Tryd.ntmps160
    go_wp2
    all_goals first
      | (go_ret; exact ⟨rfl, rfl⟩)
      | (refine bodyPost_ret (results_tmp3 rfl _ _ _) rfl ⟨rfl, rfl⟩)
      | (exfalso; omega)
  · have HV : Hid (letterP s[0].toNat = (3, 128, 191)) := Lib.hid (by
      unfold letterP
      repeat' split
      all_goals first | rfl | (exfalso; omega))
    rw [HV.out]
    go_enter Tryd.func160, Tryd.ntmps160
    go_wp2
    all_goals first
      | (go_ret; exact ⟨rfl, rfl⟩)
      | (refine bodyPost_ret (results_tmp3 rfl _ _ _) rfl ⟨rfl, rfl⟩)
      | (exfalso; omega)
  · have HV : Hid (letterP s[0].toNat = (3, 128, 159)) := Lib.hid (by
      unfold letterP
      repeat' split
      all_goals first | rfl | (exfalso; omega))
    rw [HV.out]
    go_enter Tryd.func160, Tryd.ntmps160
    go_wp2
    all_goals first
      | (go_ret; exact ⟨rfl, rfl⟩)
      | (refine bodyPost_ret (results_tmp3 rfl _ _ _) rfl ⟨rfl, rfl⟩)
      | (exfalso; omega)
  · have HV : Hid (letterP s[0].toNat = (3, 128, 191)) := Lib.hid (by
      unfold letterP
      repeat' split
      all_goals first | rfl | (exfalso; omega))
    rw [HV.out]
    go_enter Tryd.func160, Tryd.ntmps160
    go_wp2
    all_goals first
      | (go_ret; exact ⟨rfl, rfl⟩)
      | (refine bodyPost_ret (results_tmp3 rfl _ _ _) rfl ⟨rfl, rfl⟩)
      | (exfalso; omega)
  · have HV : Hid (letterP s[0].toNat = (4, 144, 191)) := Lib.hid (by
      unfold letterP
      repeat' split
      all_goals first | rfl | (exfalso; omega))
    rw [HV.out]
    go_enter Tryd.func160, Tryd.ntmps160
    go_wp2
    all_goals first
      | (go_ret; exact ⟨rfl, rfl⟩)
      | (refine bodyPost_ret (results_tmp3 rfl _ _ _) rfl ⟨rfl, rfl⟩)
      | (exfalso; omega)
  · have HV : Hid (letterP s[0].toNat = (4, 128, 191)) := Lib.hid (by
      unfold letterP
      repeat' split
      all_goals first | rfl | (exfalso; omega))
    rw [HV.out]
    go_enter Tryd.func160, Tryd.ntmps160
    go_wp2
    all_goals first
      | (go_ret; exact ⟨rfl, rfl⟩)
      | (refine bodyPost_ret (results_tmp3 rfl _ _ _) rfl ⟨rfl, rfl⟩)
      | (exfalso; omega)
  · have HV : Hid (letterP s[0].toNat = (4, 128, 143)) := Lib.hid (by
      unfold letterP
      repeat' split
      all_goals first | rfl | (exfalso; omega))
    rw [HV.out]
    go_enter Tryd.func160, Tryd.ntmps160
    go_wp2
    all_goals first
      | (go_ret; exact ⟨rfl, rfl⟩)
      | (refine bodyPost_ret (results_tmp3 rfl _ _ _) rfl ⟨rfl, rfl⟩)
      | (exfalso; omega)
  · have HV : Hid (letterP s[0].toNat = (0, 0, 0)) := Lib.hid (by
      unfold letterP
      repeat' split
      all_goals first | rfl | (exfalso; omega))
    rw [HV.out]
    go_enter Tryd.func160, Tryd.ntmps160
    go_wp2
    all_goals first
      | (go_ret; exact ⟨rfl, rfl⟩)
      | (refine bodyPost_ret (results_tmp3 rfl _ _ _) rfl ⟨rfl, rfl⟩)
      | (exfalso; omega)
end Go.Proofs.YtibmhadnfggmlaaDoor

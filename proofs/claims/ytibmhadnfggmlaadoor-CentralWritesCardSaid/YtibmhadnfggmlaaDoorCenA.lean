/- Package central: attr, Write, Size: walks. -/
import Derived.Test.YtibmhadnfggmlaaDoorCenK
import Derived.Test.YtibmhadnfggmlaaDoorHeld
namespace Go.Proofs.YtibmhadnfggmlaaDoor
open Go.RowKit
set_option linter.unusedVariables false

set_option maxRecDepth 100000 in
set_option maxHeartbeats 1600000 in
theorem attr_any (p : ByteArray) (m : Int) (sum : Nat) (l wh k : Int) (mdn t : Nat) (pos : Int) (hmd : mdn ≤ 511) (w : World) :
    Calls Tryd.prog 97 #[.agg #[.string p, .int .i64 m, .int .u32 (sum : Nat), .int .i64 l, .int .i64 wh, .int .i64 k, .int .i64 (mdn : Nat), .int .u32 (t : Nat), .int .i64 pos]] w fun e w' => e = .returned (.int .i64 (attrP k mdn : Nat)) ∧ Upd [] w w' := by
  have HK := Lib.hid (fun w => kind_any k w)
  by_cases hk : k = 2
  · subst hk
    rw [if_pos rfl] at HK
    have HO := or_kind mdn hmd 16384 (.inl rfl)
    have HA : Hid (attrP 2 mdn = (mdn + 16384) * 65536 + 16) := Lib.hid rfl
    have HD := or_dir (mdn + 16384) (by omega)
    have HO' : bits .or .i64 (mdn : Int) 16384 = ((mdn + 16384 : Nat) : Int) := HO
    go_enter Tryd.func97, Tryd.ntmps97
    go_wp2
    go_quiet ((go_at_call 100; exact Calls.quiet_of_same ((HK.out _).mono fun _ _ ⟨h1, h2⟩ => ⟨h1, h2.symm⟩)))
    go_wp2
    go_ret
    refine ⟨?_, ((Upd.refl [] w).alloc _).drewN _⟩
    rw [HA.out]
    have HD' : bits .or .i64 (((mdn : Int) + 16384) * 65536) 16 = (((mdn + 16384) * 65536 + 16 : Nat) : Int) := by rw [← HD]; congr 1
    exact congrArg (fun z => Ending.returned (.int .i64 z)) HD'
  · rw [if_neg hk] at HK
    have t2 : (k == 2) = false := by simpa using hk
    have HO := or_kind mdn hmd 32768 (.inr rfl)
    have HO' : bits .or .i64 (mdn : Int) 32768 = ((mdn + 32768 : Nat) : Int) := HO
    have HA : Hid (attrP k mdn = (mdn + 32768) * 65536) := Lib.hid (if_neg hk)
    go_enter Tryd.func97, Tryd.ntmps97
    go_wp2
    go_quiet ((go_at_call 100; exact Calls.quiet_of_same ((HK.out _).mono fun _ _ ⟨h1, h2⟩ => ⟨h1, h2.symm⟩)))
    go_wp2
    go_ret
    refine ⟨?_, ((Upd.refl [] w).alloc _).drewN _⟩
    rw [HA.out]
    exact congrArg (fun z => Ending.returned (.int .i64 z)) (show ((mdn : Int) + 32768) * 65536 = (((mdn + 32768) * 65536 : Nat) : Int) by omega)
end Go.Proofs.YtibmhadnfggmlaaDoor

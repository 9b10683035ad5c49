/- Package dos: split: walks. -/
import Derived.Test.YtibmhadnfggmlaaDoorNums
namespace Go.Proofs.YtibmhadnfggmlaaDoor
open Go.RowKit
set_option linter.unusedVariables false

set_option maxRecDepth 100000 in
set_option maxHeartbeats 1600000 in
theorem dtake_any (t f k b : Nat) (w : World) (hb : w.cell? ⟨b, 0, none⟩ = some (.int .u32 (t : Nat))) (ht : t < 4294967296) (hf : f ≤ 25) (hk : k ≤ 7) :
    Calls Tryd.prog 139 #[.int .i64 (f : Nat), .int .i64 (k : Nat), .pointer (some ⟨b, 0, none⟩)] w fun e w' => e = .returned (.int .i64 (t / 2 ^ f % 2 ^ k : Nat)) ∧ ∃ n, w' = w.drewN n := by
  go_enter Tryd.func139, Tryd.ntmps139
  go_wp2
  go_quiet (fail)
  go_wp2
  go_returns
  exact ⟨by
    show Ending.returned (.int .i64 (wrap64 (bits BinOp.and IntKind.u32 ((t : Int) / 2 ^ f) ((2 ^ k - 1) % 4294967296)))) = _
    rw [mask_u32 t f k ht hk, wrap64_nat _ (Nat.lt_of_lt_of_le (Nat.mod_lt _ (Nat.two_pow_pos k)) (Nat.le_trans (Nat.pow_le_pow_right (by omega) hk) (by omega)))], _, rfl⟩
end Go.Proofs.YtibmhadnfggmlaaDoor

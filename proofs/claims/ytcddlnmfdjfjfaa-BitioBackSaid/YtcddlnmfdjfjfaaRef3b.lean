/- The walk of the reference's writer of bits (swingleref03.W), further: Bytes. -/
import Derived.Test.YtcddlnmfdjfjfaaRef3
namespace Go.Proofs.Ytcddlnmfdjfjfaa
open Go.RowKit

def RbRel (w wr : World) : Prop := Upd [] w wr
theorem conv_new {P : Program} (w : World) (src dst e : TypeId) (hs : P.underlying src = some (.slice e)) (he : P.underlying e = some (.int .u8)) (hd : P.underlying dst = some .string) (x : Nat) :
    (convert src dst (.slice (some ⟨w.heap.size, 0, none⟩) 1 1)).run P (w.alloc (.cells #[.int .u8 (x : Nat)] e)) = .ok (.string (strOf [x])) (w.alloc (.cells #[.int .u8 (x : Nat)] e)) :=
  run_conv_row (P := P) _ src dst e hs he hd (l := [x]) (Row.new w [.int .u8 (x : Nat)] e 1 1 (by decide) rfl)

set_option maxRecDepth 100000 in
set_option maxHeartbeats 3200000 in
theorem rbytes_any (b : Nat) (w : World) (v : Value) (L : List Bool) (hW : RwAt w b v L) (hL : L.length ≤ 1099511627776) :
    Calls Try.prog 19 #[.pointer (some ⟨b, 0, none⟩)] w fun e w' => e = .returned (.string (strOf (pack L))) ∧ Upd [] w w' := by
  go_enter Try.func19, Try.ntmps19
  go_wp2
  go_loopg [3, 4] ((L.length + 7) / 8) (fun g s3 s4 wr => ∃ q, q ≤ (L.length + 7) / 8 ∧ g = (L.length + 7) / 8 - q ∧ s4 = .int .i64 ((8 * q : Nat) : Int) ∧ s3 = .string (strOf (outs L q)) ∧ RbRel w wr)
  case atStart => exact ⟨0, by omega, rfl, rfl, rfl, .refl _ _⟩
  case round =>
    obtain ⟨q, hq, rfl, rfl, rfl, hU⟩ := hrel
    have hW' := hW.upd hU (by simp) (by simp)
    have hrow := hW'.row
    have h0 := hW'.blk.cell 0 rfl
    have hqs : q ≤ 1099511627776 := by omega
    by_cases hc : 8 * q < L.length
    · obtain ⟨gb, cap, rfl, hgl, hcap⟩ := hrow.form' (by omega)
      have hcell : ∀ j (hj : j < L.length), wr.cell? ⟨gb, j, none⟩ = some (.int .u32 (((L[j]).toNat : Nat) : Int)) := fun j hj => Row.cell hrow j (by simp [u32b, hj])
      have HC := Lib.hid hcell
      clear hcell hW' hrow
      generalize hi : 8 * q = i at *
      have HI := Lib.hid hi
      clear hi
      have hcz : (i : Int) < (L.length : Int) := by omega
      go_wp2
      go_loopg [5, 6] 8 (fun g s5 s6 wx => ∃ j, j ≤ 8 ∧ g = j ∧ s6 = .int .i64 ((j : Int) - 1) ∧ s5 = .int .u32 ((val ((L.drop (i + j)).take (8 - j)) : Nat) : Int) ∧ wx = wr)
      case atStart => exact ⟨8, by omega, rfl, rfl, by simp [val], rfl⟩
      case round =>
        obtain ⟨j, hj, rfl, rfl, rfl, rfl⟩ := hrel
        cases gk with
        | zero =>
          have hv : val ((L.drop (i + 0)).take (8 - 0)) = chunk L q := by rw [← HI.out]; rfl
          rw [hv]
          have hlt := chunk_lt L q
          have hsn := Lib.hid (outs_succ L q)
          have hle := length_outs L q
          generalize chunk L q = c at *
          have hcv := conv_new (P := Try.prog) wr 23 9 5 Try.underlying23 Try.underlying5 Try.underlying9 c
          have hadd : ∀ W', (Op.stringOp .add (strOf (outs L q)) (strOf [c])).run Try.prog W' = .ok (.string (strOf (outs L q) ++ strOf [c])) W' := fun W' =>
            run_string_add_sum _ _ _ (by rw [size_strOf, size_strOf, hle]; simp; omega)
          have hm1 : ¬ (0 : Int) ≤ ((0 : Nat) : Int) - 1 := by omega
          go_wp2
          go_roundg ((L.length + 7) / 8 - (q + 1))
          case measure => have := HI.out; omega
          case rel =>
            refine ⟨q + 1, by have := HI.out; omega, rfl, ?_, ?_, (hU : Upd [] w wr).alloc _⟩
            · rw [← HI.out]; congr 1
            · rw [hsn.out, ← strOf_append]
        | succ k =>
          rw [show (((k + 1 : Nat) : Int) - 1) = (k : Int) by omega]
          have hB : val ((L.drop (i + (k + 1))).take (8 - (k + 1))) < 128 := Nat.lt_of_lt_of_le (val_take_lt L _ _) (Nat.le_trans (Nat.pow_le_pow_right (by omega) (show 8 - (k + 1) ≤ 7 by omega)) (by decide))
          by_cases hin : i + k < L.length
          · have hst := Lib.hid (show val ((L.drop (i + k)).take (8 - k)) = (L[i + k]).toNat + 2 * val ((L.drop (i + (k + 1))).take (8 - (k + 1))) by
              rw [show 8 - k = (8 - (k + 1)) + 1 by omega, val_take_step _ _ _ hin]; rfl)
            have h1 := HC.out (i + k) hin
            have hb1 := Bool.toNat_le L[i + k]
            generalize val ((L.drop (i + (k + 1))).take (8 - (k + 1))) = B at *
            generalize (L[i + k]).toNat = B1 at *
            have hz1 : (i : Int) + (k : Int) < (L.length : Int) := by omega
            go_wp2
            go_roundg k
            case measure => omega
            case rel => exact ⟨k, by omega, rfl, rfl, by rw [hst.out]; simp; omega, rfl⟩
          · have hst := Lib.hid (show val ((L.drop (i + k)).take (8 - k)) = 2 * val ((L.drop (i + (k + 1))).take (8 - (k + 1))) by
              rw [val_take_out _ _ _ (by omega), val_take_out _ _ _ (by omega)])
            generalize val ((L.drop (i + (k + 1))).take (8 - (k + 1))) = B at *
            have hz1 : ¬ ((i : Int) + (k : Int) < (L.length : Int)) := by omega
            go_wp2
            go_roundg k
            case measure => omega
            case rel => exact ⟨k, by omega, rfl, rfl, by rw [hst.out]; simp, rfl⟩
    · have hq2 : q = (L.length + 7) / 8 := by omega
      have hcz : ¬ (((8 * q : Nat) : Int) < (L.length : Int)) := by omega
      obtain ⟨a1, c1, rfl⟩ := hrow.form
      generalize 8 * q = i at *
      have HQ := Lib.hid hq2
      clear hq2
      go_wp2
      go_returns
      exact ⟨by rw [HQ.out]; rfl, hU⟩
end Go.Proofs.Ytcddlnmfdjfjfaa

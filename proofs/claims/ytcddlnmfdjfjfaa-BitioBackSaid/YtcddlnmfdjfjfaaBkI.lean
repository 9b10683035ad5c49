/- Package bitio: the iterator over a text's bits. -/
import Derived.Test.YtcddlnmfdjfjfaaBkP
import Derived.Test.YtcddlnmfdjfjfaaSeqW
import Derived.Shelf.Abstract
import Derived.Shelf.RegionOpen
import Derived.WalkKit
import Derived.OwnWalkIn
import Derived.TacticsInMore
import Derived.LoopNIn
import Derived.LoopIn
import Derived.Sort.LoopGhostIn
import Derived.Test.YtcddlnmfdjfjfaaProg
namespace Go.Proofs.Ytcddlnmfdjfjfaa
open Go.RowKit Go.Shelf
attribute [local go_sem] Oper.semAt_some

theorem allBits_any (s : ByteArray) (w : World) : Calls Try.prog 30 #[.string s] w fun e w' =>
    e = .returned (.func (.func 49) #[] #[.pointer (some ⟨w.heap.size, 0, none⟩)]) ∧ w' = w.alloc (.cells #[.string s] 9) := by
  go_enter Try.func30, Try.ntmps30
  go_wp2
  go_ret
  exact ⟨rfl, rfl⟩
theorem one_bit (s : ByteArray) (k : Nat) (h : k < 8 * s.size) : rdBad s k false 1 = false ∧ rdNum s k false 1 = ((sbits s)[k]'(by rw [length_sbits]; exact h)).toNat ∧ rdTo s k false 1 = k + 1 := by
  have hbad : rdBad s k false 1 = false := by
    unfold rdBad
    rw [decide_eq_false (by omega), decide_eq_false (by omega), decide_eq_false (by omega)]
    rfl
  refine ⟨hbad, ?_, ?_⟩
  · unfold rdNum
    rw [hbad, if_neg (by simp)]
    show val (((sbits s).drop k).take 1) = _
    rw [val_take_step _ _ 0 (by rw [length_sbits]; exact h)]
    simp [val]
  · unfold rdTo
    rw [hbad, if_neg (by simp)]
    rfl
set_option maxRecDepth 100000 in
set_option maxHeartbeats 2000000 in
theorem allBits_seq (Bs : Nat) (s : ByteArray) (w : World) (hc : w.cell? ⟨Bs, 0, none⟩ = some (.string s)) (hs : s.size ≤ 1099511627776) :
    SeqW Try.prog 49 #[.pointer (some ⟨Bs, 0, none⟩)] (fun b : Bool => #[Value.int .u32 (b.toNat : Nat)]) [w.heap.size + 2] [w.heap.size + 2] (fun xs => xs = sbits s) (fun pre => pre <+: sbits s) (8 * s.size) w := by
  intro l J Jx W hU hz hJ hJx hY h0
  have c0 := (hU.cell (p := ⟨Bs, 0, none⟩) (World.block_lt_of_cell? w _ hc) (by simp)).trans hc
  refine callsIn_of_wp Try.func49 rfl trivial ?_ rfl
  simp only [Try.ntmps49, List.size_toArray, List.length_cons, List.length_nil, Nat.reduceAdd, Nat.reduceSub, Array.replicate_succ, Array.replicate_zero, List.push_toArray, List.append_toArray, List.nil_append, List.cons_append]
  gi_wp2_with fail
  refine ⟨trivial, (callsIn_wide.2 (read_any s W)).mono ?_⟩
  rintro e W1 ⟨rfl, hW1⟩
  have hR1 : RdAt W1 W.heap.size 89 s 0 false := by rw [← hW1]; exact rd_new W s _
  have hJ1 : J [] W1 := hJ [] W W1 h0 (by rw [← hW1]; exact ⟨(Upd.refl _ _).alloc _, KeepsOthers.alloc _ _⟩)
  clear hW1 c0 hc hU h0
  rw [hz] at hR1 ⊢
  clear hz
  generalize w.heap.size + 2 = br at *
  have HJ := Lib.hid hJ
  have HY := Lib.hid hY
  have HJ1 := Lib.hid hJ1
  clear hJ hY hJ1 hJx
  gi_wp2
  gi_loopg [] (8 * s.size) (fun g wr => ∃ k, k ≤ 8 * s.size ∧ g = 8 * s.size - k ∧ RdAt wr br 89 s k false ∧ Hid (J ((sbits s).take k) wr))
  case atStart => exact ⟨0, by omega, rfl, hR1, HJ1⟩
  case round =>
    obtain ⟨k, hk, rfl, hR, HJk⟩ := hrel
    clear HJ1 hR1
    have HR := Lib.hid hR
    clear hR
    have hbl : ∀ o, wr.heap[br]? = some o → o.isCells = true := HR.out.1.cellsOnly
    have hbr := HR.out.1.lt
    by_cases hc : k < 8 * s.size
    · have hcz : (0 : Int) < ((8 * s.size - k : Nat) : Int) := by omega
      have hk1 : k < (sbits s).length := by rw [length_sbits]; exact hc
      gi_wp2_with fail
      refine ⟨trivial, (callsIn_wide.2 (left_any br wr _ s k false HR.out hs)).mono ?_⟩
      rintro e w2 ⟨rfl, n2, rfl⟩
      have HR2 : Hid (RdAt (wr.drewN n2) br 89 s k false) := Lib.hid ⟨HR.out.1.drewN n2, HR.out.2⟩
      have hO2 : Own2 [br] wr (wr.drewN n2) := own2_of (fq := []) ((Upd.refl _ _).drewN n2) (by simp) (by simp)
      obtain ⟨hb1, hb2, hb3⟩ := one_bit s k hc
      have hBT := rbits_read br 1 (wr.drewN n2) s k false HR2.out hs
      rw [hb1, hb2, hb3] at hBT
      have HBT := Lib.hid hBT
      clear hBT hb1 hb2 hb3
      have HJ2 := Lib.hid (HJ.out _ _ _ HJk.out hO2)
      have HTK : Hid ((sbits s).take (k + 1) = (sbits s).take k ++ [(sbits s)[k]]) := Lib.hid (List.take_succ_eq_append_getElem hk1)
      have HLK : Hid (((sbits s).take k).length = k) := Lib.hid (by rw [List.length_take]; omega)
      clear hO2 HJk HR hbl
      have hbl2 : ∀ o, (wr.drewN n2).heap[br]? = some o → o.isCells = true := HR2.out.1.cellsOnly
      generalize wr.drewN n2 = w3 at *
      obtain ⟨bit, hbit⟩ : ∃ bit, (sbits s)[k] = bit := ⟨_, rfl⟩
      rw [hbit] at HBT HTK
      clear hbit
      gi_wp2_with fail
      refine ⟨trivial, (callsIn_wide.2 HBT.out).mono ?_⟩
      rintro e w4 ⟨rfl, hR4, hU4⟩
      have hJ4 : J ((sbits s).take k) w4 := HJ.out _ _ _ HJ2.out (own2_of hU4 (fun k hk => hk) (fun k hk => by simp at hk; subst hk; exact hbl2))
      obtain ⟨fn, tmps, assign, body, hy, hRd⟩ := HY.out _ bit w4 hJ4 (by rw [HLK.out]; exact hc) (by intro q hq; simp at hq; subst hq; exact hR4.1.lt)
      have HR4 := Lib.hid hR4
      clear hR4 hU4 hJ4 HJ2 HR2 hbl2
      gi_wp2
      refine hRd.mono ?_
      rintro e W3 (⟨rfl, hJ3, hk3⟩ | ⟨rfl, hJx3⟩)
      · have hR5 : RdAt W3 br 89 s (k + 1) false := ⟨(hk3.2 br (by simp)).trans HR4.out.1, HR4.out.2⟩
        have HR5 := Lib.hid hR5
        clear hR5 hk3
        gi_wp2
        gi_roundg (8 * s.size - (k + 1))
        all_goals first
          | omega
          | exact ⟨k + 1, by omega, rfl, HR5.out, Lib.hid (by rw [HTK.out]; exact hJ3)⟩
      · gi_wp2
        refine bodyPost_ret (results_none rfl _ _ _) rfl ?_
        exact ⟨⟨_, rfl⟩, .inr ⟨_, by rw [← HTK.out]; exact List.take_prefix _ _, hJx3⟩⟩
    · obtain rfl : k = 8 * s.size := by omega
      have hz0 : ((8 * s.size - 8 * s.size : Nat) : Int) = 0 := by omega
      gi_wp2_with fail
      refine ⟨trivial, (callsIn_wide.2 (left_any br wr _ s _ false HR.out hs)).mono ?_⟩
      rintro e w2 ⟨rfl, n2, rfl⟩
      have hO2 : Own2 [br] wr (wr.drewN n2) := own2_of (fq := []) ((Upd.refl _ _).drewN n2) (by simp) (by simp)
      have hJ2 := HJ.out _ _ _ HJk.out hO2
      rw [show (sbits s).take (8 * s.size) = sbits s by rw [← length_sbits, List.take_length]] at hJ2
      rw [hz0]
      clear hz0
      have HJ2 := Lib.hid hJ2
      clear hJ2 hO2
      gi_wp2
      go_end0
      exact ⟨⟨_, rfl⟩, .inl ⟨_, rfl, HJ2.out⟩⟩
end Go.Proofs.Ytcddlnmfdjfjfaa

/- Package block: Plan.tables: its walk. -/
import Derived.Test.YtdehkaknbmbieaaGreatSyW
import Derived.Test.YtdehkaknbmbieaaGreatPln
namespace Go.Proofs.YtdehkaknbmbieaaGreat
set_option linter.unusedVariables false
set_option linter.unusedSimpArgs false
set_option linter.unusedSectionVars false
open Go.RowKit
set_option linter.unusedVariables false
set_option linter.unusedSimpArgs false

theorem notin_later {w : World} {b q : Nat} {v v' : Value} (h : q ∉ wrFp b v) (hq : q < w.heap.size) (hT : Later w v v') : q ∉ wrFp b v' := fun hm => by
  rcases List.mem_cons.1 hm with h1 | h1
  · exact h (by rw [h1]; exact List.mem_cons_self)
  · rcases hT.fp q h1 with h2 | h2
    · exact h (List.mem_cons_of_mem _ h2)
    · omega
theorem notin_new {w0 w : World} {b q : Nat} {v0 v : Value} {L : List Bool} (h : WS w0 b v0 w v L) (hq : w.heap.size ≤ q) : q ∉ wrFp b v := fun hm => by
  rcases List.mem_cons.1 hm with h1 | h1
  · have := h.at_.blk.lt; omega
  · have := h.at_.row.lt q (by simpa using h1); omega
/-- The bits of the lengths of lengths; of steps; of a plan. -/
def lenBt (lens : List Nat) (i : Nat) : List Bool := (ordL.take i).flatMap fun j => low 3 (lens.getD j 0)
def stpB (lens : List Nat) (s : StpD) : List Bool := symBits lens s.sym ++ low s.bits s.more
def stpsB (lens : List Nat) (l : List StpD) : List Bool := l.flatMap (stpB lens)
def headB (m1 m2 t : Nat) : List Bool := low 5 (m1 - 257) ++ low 5 (m2 - 1) ++ low 4 (t - 4)
def tabB (m1 m2 t : Nat) (lens : List Nat) (steps : List StpD) : List Bool := headB m1 m2 t ++ lenBt lens t ++ stpsB lens steps
theorem lenBt_succ (lens : List Nat) (i : Nat) (h : i < 19) : lenBt lens (i + 1) = lenBt lens i ++ low 3 (lens.getD (ordL.getD i 0) 0) := by
  unfold lenBt
  have hi : i < ordL.length := h
  rw [List.take_succ_eq_append_getElem hi, List.flatMap_append, List.flatMap_cons, List.flatMap_nil, List.append_nil]
  have e : ordL.getD i 0 = ordL[i] := by rw [List.getD_eq_getElem?_getD, List.getElem?_eq_getElem hi]; rfl
  rw [e]
theorem stpsB_snoc (lens : List Nat) (l : List StpD) (s : StpD) : stpsB lens (l ++ [s]) = stpsB lens l ++ stpB lens s := by unfold stpsB; rw [List.flatMap_append, List.flatMap_cons, List.flatMap_nil, List.append_nil]
theorem lenBt_len (lens : List Nat) : ∀ i, i ≤ 19 → (lenBt lens i).length = 3 * i
  | 0, _ => rfl
  | i + 1, h => by rw [lenBt_succ lens i (by omega), List.length_append, lenBt_len lens i (by omega), length_low]; omega
theorem stpsB_le (lens : List Nat) (h : ∀ x ∈ lens, x ≤ 15) : ∀ (l : List StpD), (∀ s ∈ l, s.bits ≤ 7) → (stpsB lens l).length ≤ 22 * l.length
  | [], _ => by simp [stpsB]
  | s :: l, hs => by
    have h1 := stpsB_le lens h l (fun u hu => hs u (List.mem_cons_of_mem _ hu))
    have h2 := symB_le lens h s.sym
    have h3 := hs s List.mem_cons_self
    unfold stpsB at *
    have e : (stpB lens s).length = (symBits lens s.sym).length + s.bits := by unfold stpB; rw [List.length_append, length_low]
    rw [List.flatMap_cons, List.length_append, List.length_cons, e]
    omega
theorem order_new (w : World) : Calls Tryz.prog 56 #[] w fun e w' => e = .returned (.slice (some ⟨w.heap.size, 0, none⟩) 19 19) ∧ Blk w' w.heap.size (i64s ordL) 3 ∧ Upd [] w w' := by
  go_enter Tryz.func56, Tryz.ntmps56
  go_wp2
  go_ret
  exact ⟨rfl, Blk.new w (i64s ordL) _, (Upd.refl [] w).alloc _⟩
def TabsP (w : World) (b : Nat) (v : Value) (L : List Bool) (m1 m2 : Nat) (lens : List Nat) (steps : List StpD) (e : Ending) (w' : World) : Prop := e = .returned (.tuple #[]) ∧ ∃ v' t, ToldO lens t ∧ WS w b v w' v' (L ++ tabB m1 m2 t lens steps)
set_option maxRecDepth 100000 in
set_option maxHeartbeats 12800000 in
theorem btables_any (lens : List Nat) (l : List StpD) (b : Nat) (v : Value) (L : List Bool) (a1 a2 a3 a4 : Option Addr) (n1 n2 n3 c1 c2 c3 c4 : Nat) (w : World)
    (hN : ∀ w', Upd (wrFp b v) w w' → IntsIn w' a4 19 (ints lens)) (hS : ∀ w', Upd (wrFp b v) w w' → StpIn w' a3 n3 l)
    (hW : WrAt w b v L (L.length / 8)) (hL : L.length ≤ 100000000000) (hn : n3 ≤ 1000) (h1 : 257 ≤ n1 ∧ n1 ≤ 286) (h2 : 1 ≤ n2 ∧ n2 ≤ 30) (hk : kindOf (ints lens) ≠ 3) (hs : ∀ s ∈ l, lens.getD s.sym 0 ≠ 0 ∧ s.bits ≤ 7 ∧ s.more < 256) (h7 : ∀ j, lens.getD j 0 ≤ 7) :
    Calls Tryz.prog 26 #[.agg #[.slice a1 n1 c1, .slice a2 n2 c2, .slice a3 n3 c3, .slice a4 19 c4], .pointer (some ⟨b, 0, none⟩)] w (TabsP w b v L n1 n2 lens l) := by
  have hU1 : Upd [] w (w.alloc (.cells #[.slice a1 n1 c1, .slice a2 n2 c2, .slice a3 n3 c3, .slice a4 19 c4] 61)) := (Upd.refl [] w).alloc _
  have hB := Blk.new w [.slice a1 n1 c1, .slice a2 n2 c2, .slice a3 n3 c3, .slice a4 19 c4] 61
  have HW1 := Lib.hid ((WS.refl hW).pure hU1)
  have HBN := Lib.hid (notin_new (WS.refl hW) (Nat.le_refl w.heap.size))
  have HN := Lib.hid hN
  have HS := Lib.hid hS
  have HLN := Lib.hid (hN w (Upd.refl _ _)).len
  have HLS := Lib.hid (hS w (Upd.refl _ _)).len
  have HK := Lib.hid hk
  have HSS := Lib.hid hs
  have H7 := Lib.hid h7
  have H15 : Hid (∀ x ∈ lens, x ≤ 15) := Lib.hid (by have := nats_le (kindOf_ok hk).1; rwa [nats_intsT] at this)
  have HSB := Lib.hid (fun i => stpsB_le lens H15.out (l.take i) (fun s h => (hs s (List.mem_of_mem_take h)).2.1))
  have HB := Lib.hid hB
  clear hN hS hk hs hB hW hU1 h7
  go_enter Tryz.func26, Tryz.ntmps26
  go_upto_region 1 with fail
  change Code.wp _ _ _ _ (w.alloc (.cells #[.slice a1 n1 c1, .slice a2 n2 c2, .slice a3 n3 c3, .slice a4 19 c4] 61))
  obtain ⟨w1, hw1⟩ : ∃ w1, w1 = w.alloc (.cells #[.slice a1 n1 c1, .slice a2 n2 c2, .slice a3 n3 c3, .slice a4 19 c4] 61) := ⟨_, rfl⟩
  rw [← hw1] at HW1 HB ⊢
  have hbx : w.heap.size < w1.heap.size := HB.out.lt
  obtain ⟨bx, hbxe⟩ : ∃ bx, w.heap.size = bx := ⟨_, rfl⟩
  rw [hbxe] at HB HBN hbx ⊢
  clear hw1 hbxe
  have k0 := HB.out.cell 0 rfl
  have k1 := HB.out.cell 1 rfl
  have k2 := HB.out.cell 2 rfl
  have k3 := HB.out.cell 3 rfl
  have HTO := Lib.hid (told_any lens a1 a2 a3 a4 n1 n2 n3 c1 c2 c3 c4 w1 (HN.out w1 HW1.out.upd))
  go_wp2_with fail
  refine HTO.out.mono ?_
  rintro e w2 ⟨t, rfl, ht, hU2⟩
  have HT := Lib.hid ht
  have ht4 := ht.lo
  have ht19 := ht.hi
  have HW2 := Lib.hid (HW1.out.pure hU2)
  have hB2 := HB.out.upd hU2 (by simp)
  have hbx2 : bx < w2.heap.size := hB2.lt
  have HB2 := Lib.hid hB2
  clear k0 k1 k2 k3 ht hU2 HTO HW1 HB hbx hB2
  have k0 := HB2.out.cell 0 rfl
  have hx1 : IntKind.u32.wrap ((n1 : Int) - 256 - 1) = ((n1 - 257 : Nat) : Int) := by simp [IntKind.wrap, IntKind.bits, IntKind.signed]; omega
  have hx1' : (((n1 : Int) - 256 - 1) % 4294967296) = ((n1 - 257 : Nat) : Int) := by omega
  obtain ⟨q1, hq1⟩ : ∃ q, n1 - 257 = q := ⟨_, rfl⟩
  rw [hq1] at hx1 hx1'
  have HQ1 := Lib.hid hq1
  have hq1b : q1 < 32 := by omega
  clear hq1
  have HBX := Lib.hid (bits_any b (q1) ((q1 : Nat) : Int) 5 5 w2 v (L) rfl (by omega) HW2.out.at_ (by omega) (by omega) (Lib.hid (by omega)))
  go_wp2_with fail
  refine HBX.out.mono ?_
  rintro e w3 ⟨rfl, v3, h1', h2', h3⟩
  have HW3 := Lib.hid (HW2.out.step h1' h2' h3)
  clear HBX
  have hB3 := HB2.out.upd h2' HBN.out
  have HBN3 := Lib.hid (notin_later HBN.out hbx2 h3)
  have hbx3 : bx < w3.heap.size := hB3.lt
  have HB3 := Lib.hid hB3
  clear h1' h2' h3 k0 hx1 hx1' HW2 HB2 hB3 hbx2
  have k1 := HB3.out.cell 1 rfl
  have hx2 : IntKind.u32.wrap ((n2 : Int) - 1) = ((n2 - 1 : Nat) : Int) := by simp [IntKind.wrap, IntKind.bits, IntKind.signed]; omega
  have hx2' : (((n2 : Int) - 1) % 4294967296) = ((n2 - 1 : Nat) : Int) := by omega
  obtain ⟨q2, hq2⟩ : ∃ q, n2 - 1 = q := ⟨_, rfl⟩
  rw [hq2] at hx2 hx2'
  have HQ2 := Lib.hid hq2
  have hq2b : q2 < 32 := by omega
  have hl3 : (L ++ low 5 q1).length ≤ 100000000005 := by rw [List.length_append, length_low]; omega
  obtain ⟨L3, hL3⟩ : ∃ L3, L ++ low 5 q1 = L3 := ⟨_, rfl⟩
  rw [hL3] at HW3 hl3
  have HL3 := Lib.hid hL3
  clear hq2 hL3
  have HBX := Lib.hid (bits_any b q2 ((q2 : Nat) : Int) 5 5 w3 v3 L3 rfl (by omega) HW3.out.at_ (by omega) (by omega) (Lib.hid (by omega)))
  go_wp2_with fail
  refine HBX.out.mono ?_
  rintro e w4 ⟨rfl, v4, h1', h2', h3⟩
  have HW4 := Lib.hid (HW3.out.step h1' h2' h3)
  have hB4 := HB3.out.upd h2' HBN3.out
  have HBN4 := Lib.hid (notin_later HBN3.out hbx3 h3)
  have hbx4 : bx < w4.heap.size := hB4.lt
  have HB4 := Lib.hid hB4
  clear HBX h1' h2' h3 k1 hx2 hx2' HW3 HB3 hB4 hbx3
  have hx3 : IntKind.u32.wrap ((t : Int) - 4) = ((t - 4 : Nat) : Int) := by simp [IntKind.wrap, IntKind.bits, IntKind.signed]; omega
  have hx3' : (((t : Int) - 4) % 4294967296) = ((t - 4 : Nat) : Int) := by omega
  obtain ⟨q3, hq3⟩ : ∃ q, t - 4 = q := ⟨_, rfl⟩
  rw [hq3] at hx3 hx3'
  have HQ3 := Lib.hid hq3
  have hq3b : q3 < 16 := by omega
  have hl4 : (L3 ++ low 5 q2).length ≤ 100000000010 := by rw [List.length_append, length_low]; omega
  obtain ⟨L4, hL4⟩ : ∃ L4, L3 ++ low 5 q2 = L4 := ⟨_, rfl⟩
  rw [hL4] at HW4 hl4
  have HL4 := Lib.hid hL4
  clear hq3 hL4
  have HBX := Lib.hid (bits_any b q3 ((q3 : Nat) : Int) 4 4 w4 v4 L4 rfl (by omega) HW4.out.at_ (by omega) (by omega) (Lib.hid (by omega)))
  go_wp2_with fail
  refine HBX.out.mono ?_
  rintro e w5 ⟨rfl, v5, h1', h2', h3⟩
  have HW5 := Lib.hid (HW4.out.step h1' h2' h3)
  have hB5 := HB4.out.upd h2' HBN4.out
  have HBN5 := Lib.hid (notin_later HBN4.out hbx4 h3)
  have hbx5 : bx < w5.heap.size := hB5.lt
  have HB5 := Lib.hid hB5
  have hl5 : (L4 ++ low 4 q3).length ≤ 100000000014 := by rw [List.length_append, length_low]; omega
  obtain ⟨L5, hL5⟩ : ∃ L5, L4 ++ low 4 q3 = L5 := ⟨_, rfl⟩
  rw [hL5] at HW5 hl5
  have HL5 : Hid (L ++ headB n1 n2 t = L5) := Lib.hid (by unfold headB; rw [HQ1.out, HQ2.out, HQ3.out, ← hL5, ← HL4.out, ← HL3.out]; simp only [List.append_assoc])
  clear HBX h1' h2' h3 hx3 hx3' HW4 HB4 hB5 hbx4 hL5
  go_wp2_with fail
  refine (order_new _).mono ?_
  rintro e w6 ⟨rfl, hG, hU6⟩
  have hgn : w5.heap.size ∉ wrFp b v5 ∧ w5.heap.size < w6.heap.size := ⟨notin_new HW5.out (Nat.le_refl _), hG.lt⟩
  generalize w5.heap.size = g at *
  have HW6 := Lib.hid (HW5.out.pure hU6)
  have HB6 := Lib.hid (HB5.out.upd hU6 (by simp))
  have HG := Lib.hid hG
  have HGN := Lib.hid hgn.1
  have hbx6 : bx < w6.heap.size := HB6.out.lt
  have htz : (t : Int) ≤ 19 := by omega
  have htz0 : (0 : Int) ≤ (t : Int) := by omega
  clear hG hU6 HW5 HB5 hbx5
  go_wp2
  go_loopg [35] 1000 (fun gg s35 wr => ∃ i : Nat, i ≤ t ∧ gg = 1000 - i ∧ s35 = .int .i64 (i : Nat) ∧ ∃ v', Hid (WS w b v wr v' (L5 ++ lenBt lens i)) ∧ Hid (Blk wr bx [.slice a1 n1 c1, .slice a2 n2 c2, .slice a3 n3 c3, .slice a4 19 c4] 61) ∧ Hid (Blk wr g (i64s ordL) 3) ∧ Hid (bx ∉ wrFp b v' ∧ g ∉ wrFp b v'))
  case atStart => exact ⟨0, by omega, by omega, rfl, v5, Lib.hid (by show WS w b v w6 v5 (L5 ++ []); rw [List.append_nil]; exact HW6.out), HB6, HG, Lib.hid ⟨HBN5.out, HGN.out⟩⟩
  case round =>
    obtain ⟨i, hin, rfl, rfl, vi, HWi, HBi, HGi, HNi⟩ := hrel
    have hlbi := lenBt_len lens i (by omega)
    have hLi : (L5 ++ lenBt lens i).length ≤ 100000000100 := by rw [List.length_append]; omega
    by_cases hc : i < t
    · have hcz : (i : Int) < (t : Int) := by omega
      have hw1 : IntKind.i64.wrap ((i : Int) + 1) = ((i + 1 : Nat) : Int) := by rw [IntWalk.i64_in _ (by omega)]; rfl
      obtain ⟨hj, hjo⟩ := ordL_lt ⟨i, by omega⟩
      dsimp only at hj hjo
      have co := HGi.out.cell i (i64s_get ordL i _ hjo)
      have k3 := HBi.out.cell 3 rfl
      have hjl : ordL.getD i 0 < lens.length := by have := HLN.out; simp [ints] at this; omega
      obtain ⟨b4, off4, rfl, hcx⟩ := (HN.out wr HWi.out.upd).natAt _ hjl
      have hx7 := H7.out (ordL.getD i 0)
      have HLS2 := Lib.hid (lenBt_succ lens i (by omega))
      generalize lens.getD (ordL.getD i 0) 0 = xv at *
      generalize ordL.getD i 0 = j at *
      have hjz : (j : Int) < 19 := by omega
      have hxc : IntKind.u32.wrap (xv : Int) = (xv : Int) := by simp [IntKind.wrap, IntKind.bits, IntKind.signed]; omega
      have hxc' : ((xv : Int) % 4294967296) = (xv : Int) := by omega
      obtain ⟨Li, hLie⟩ : ∃ Li, L5 ++ lenBt lens i = Li := ⟨_, rfl⟩
      rw [hLie] at HWi hLi
      have HLI := Lib.hid hLie
      have HBX := Lib.hid (bits_any b xv ((xv : Nat) : Int) 3 3 wr vi Li rfl (by omega) HWi.out.at_ (by omega) (by omega) (Lib.hid (by omega)))
      have hbxr : bx < wr.heap.size := HBi.out.lt
      have hgr : g < wr.heap.size := HGi.out.lt
      clear hjo hjl hlbi hLie
      go_wp2_with fail
      refine HBX.out.mono ?_
      rintro e w7 ⟨rfl, v7, h1', h2', h3⟩
      have HW7 := Lib.hid (HWi.out.step h1' h2' h3)
      have HB7 := Lib.hid (HBi.out.upd h2' HNi.out.1)
      have HG7 := Lib.hid (HGi.out.upd h2' HNi.out.2)
      have HN7 := Lib.hid (And.intro (notin_later HNi.out.1 hbxr h3) (notin_later HNi.out.2 hgr h3))
      have HF : Hid (L5 ++ lenBt lens (i + 1) = Li ++ low 3 xv) := Lib.hid (by rw [HLS2.out, ← HLI.out, List.append_assoc])
      clear HBX h1' h2' h3 co k3 hcx hxc hxc' HWi HBi HGi HNi
      go_wp2
      go_roundg (1000 - (i + 1))
      · exact ⟨i + 1, by omega, by omega, by first | rfl | go_num, v7, Lib.hid (by rw [HF.out]; exact HW7.out), HB7, HG7, HN7⟩
      · omega
    · have hcz : ¬ (i : Int) < (t : Int) := by omega
      obtain rfl : i = t := by omega
      have k2 := HBi.out.cell 2 rfl
      obtain ⟨L6, hL6⟩ : ∃ L6, L5 ++ lenBt lens i = L6 := ⟨_, rfl⟩
      rw [hL6] at HWi hLi
      have HL6 := Lib.hid hL6
      obtain ⟨w8, hw8⟩ : ∃ W : World, W = wr := ⟨_, rfl⟩
      subst hw8
      have HBN8 := Lib.hid HNi.out.1
      clear hlbi hL6 HGi HNi HG HGN HW6 HB6
      go_wp2
      go_loopg [51] 2000 (fun gg s51 wr => ∃ k : Nat, k ≤ n3 ∧ gg = 2000 - k ∧ s51 = .int .i64 (k : Nat) ∧ ∃ v', Hid (WS w b v wr v' (L6 ++ stpsB lens (l.take k))) ∧ Hid (Blk wr bx [.slice a1 n1 c1, .slice a2 n2 c2, .slice a3 n3 c3, .slice a4 19 c4] 61) ∧ Hid (bx ∉ wrFp b v'))
      case atStart => exact ⟨0, by omega, by omega, rfl, vi, Lib.hid (by rw [List.take_zero]; show WS w b v w8 vi (L6 ++ []); rw [List.append_nil]; exact HWi.out), HBi, HBN8⟩
      case round =>
        clear HWi HBi HBN8 k2
        obtain ⟨k, hkn, rfl, rfl, vk, HWk, HBk, HNk⟩ := hrel
        have hsb : (stpsB lens (l.take k)).length ≤ 22 * k := Nat.le_trans (HSB.out k) (Nat.mul_le_mul_left _ (List.length_take_le _ _))
        have hLk : (L6 ++ stpsB lens (l.take k)).length ≤ 100000030100 := by rw [List.length_append]; omega
        by_cases hck : k < n3
        · have hckz : (k : Int) < (n3 : Int) := by omega
          have hw1 : IntKind.i64.wrap ((k : Int) + 1) = ((k + 1 : Nat) : Int) := by rw [IntWalk.i64_in _ (by omega)]; rfl
          have hil : k < l.length := by rw [HLS.out]; exact hck
          obtain ⟨bs, offs, rfl, hc1, hc2, hc3⟩ := (HS.out wr HWk.out.upd).cell k hil
          have HST : Hid (stpsB lens (l.take (k + 1)) = stpsB lens (l.take k) ++ stpB lens l[k]) := Lib.hid (by rw [List.take_succ_eq_append_getElem hil, stpsB_snoc])
          obtain ⟨hs0, hs7, hs256⟩ := HSS.out l[k] (List.getElem_mem hil)
          have HSD : Hid (stpB lens l[k] = symBits lens l[k].sym ++ low l[k].bits l[k].more) := Lib.hid rfl
          generalize stpB lens l[k] = SB at *
          generalize l[k] = s at *
          obtain ⟨sy, sb, sm⟩ := s
          dsimp only at hc1 hc2 hc3 hs0 hs7 hs256 HSD
          obtain ⟨Lk, hLke⟩ : ∃ Lk, L6 ++ stpsB lens (l.take k) = Lk := ⟨_, rfl⟩
          rw [hLke] at HWk hLk
          have HLK : Hid (L6 ++ stpsB lens (l.take (k + 1)) = Lk ++ (symBits lens sy ++ low sb sm)) := Lib.hid (by rw [HST.out, HSD.out, ← hLke, List.append_assoc])
          have hT4 := Blk.new wr [.int .i64 (sy : Nat), .int .i64 (sb : Nat), .int .i64 (sm : Nat)] 101
          have hUa : Upd [] wr (wr.alloc (.cells #[.int .i64 (sy : Nat), .int .i64 (sb : Nat), .int .i64 (sm : Nat)] 101)) := (Upd.refl [] wr).alloc _
          have HWa := Lib.hid (HWk.out.pure hUa)
          have HBa := Lib.hid (HBk.out.upd hUa (by simp))
          have hqn := notin_new HWk.out (Nat.le_refl wr.heap.size)
          have HS0 := Lib.hid hs0
          clear hil hLke hUa HWk HBk HST HSD hs0
          go_upto_region 13 with fail
          change Code.wp _ _ _ _ (wr.alloc (.cells #[.int .i64 (sy : Nat), .int .i64 (sb : Nat), .int .i64 (sm : Nat)] 101))
          generalize wr.alloc (.cells #[.int .i64 (sy : Nat), .int .i64 (sb : Nat), .int .i64 (sm : Nat)] 101) = wa at *
          generalize wr.heap.size = q at *
          have HQN := Lib.hid hqn
          have t0 := hT4.cell 0 rfl
          have HT4 := Lib.hid hT4
          have k3 := HBa.out.cell 3 rfl
          have hbxa : bx < wa.heap.size := HBa.out.lt
          have hqa : q < wa.heap.size := hT4.lt
          have HWc := Lib.hid (wsym_new b 19 c4 sy vk Lk a4 lens wa (fun w' h => HN.out w' (HWa.out.fp h)) HWa.out.at_ (by omega) HK.out HS0.out)
          clear hT4 hc1 hc2 hc3 hqn
          go_wp2_with fail
          refine HWc.out.mono ?_
          rintro e w9 ⟨rfl, v9, h1', h2', h3⟩
          have HW9 := Lib.hid (HWa.out.step h1' h2' h3)
          have hT9 := HT4.out.upd h2' HQN.out
          have HB9 := Lib.hid (HBa.out.upd h2' HNk.out)
          have HN9 := Lib.hid (notin_later HNk.out hbxa h3)
          have t1 := hT9.cell 1 rfl
          have t2 := hT9.cell 2 rfl
          obtain ⟨L9, hL9⟩ : ∃ L9, Lk ++ symBits lens sy = L9 := ⟨_, rfl⟩
          have hL9l : L9.length ≤ 100000030115 := by rw [← hL9, List.length_append]; have := symB_le lens H15.out sy; omega
          rw [hL9] at HW9
          have HL9 := Lib.hid hL9
          have hxc : IntKind.u32.wrap (sm : Int) = (sm : Int) := by simp [IntKind.wrap, IntKind.bits, IntKind.signed]; omega
          have hxc' : ((sm : Int) % 4294967296) = (sm : Int) := by omega
          have hbx9 : bx < w9.heap.size := HB9.out.lt
          have HBX := Lib.hid (bits_any b sm ((sm : Nat) : Int) (sb : Int) sb w9 v9 L9 rfl (by omega) HW9.out.at_ (by omega) (by omega) (Lib.hid (by omega)))
          clear h1' h2' h3 t0 k3 HWc HT4 hT9 HWa HBa HQN hL9
          go_wp2_with fail
          refine HBX.out.mono ?_
          rintro e w10 ⟨rfl, v10, h1', h2', h3⟩
          have HW10 := Lib.hid (HW9.out.step h1' h2' h3)
          have HB10 := Lib.hid (HB9.out.upd h2' HN9.out)
          have HN10 := Lib.hid (notin_later HN9.out hbx9 h3)
          have HF : Hid (L6 ++ stpsB lens (l.take (k + 1)) = L9 ++ low sb sm) := Lib.hid (by rw [HLK.out, ← HL9.out, List.append_assoc])
          clear h1' h2' h3 t1 t2 hxc hxc' HBX HW9 HB9 HN9
          go_wp2
          go_roundg (2000 - (k + 1))
          · exact ⟨k + 1, by omega, by omega, by first | rfl | go_num, v10, Lib.hid (by rw [HF.out]; exact HW10.out), HB10, HN10⟩
          · omega
        · have hckz : ¬ (k : Int) < (n3 : Int) := by omega
          obtain rfl : k = n3 := by omega
          have htk : l.take k = l := List.take_of_length_le (by rw [HLS.out]; exact Nat.le_refl _)
          rw [htk] at HWk
          go_wp2
          go_returns
          exact ⟨rfl, vk, i, HT.out, by
            have e : L ++ tabB n1 n2 i lens l = L6 ++ stpsB lens l := by unfold tabB; rw [← HL6.out, ← HL5.out]; simp only [List.append_assoc]
            rw [e]
            exact HWk.out⟩
end Go.Proofs.YtdehkaknbmbieaaGreat

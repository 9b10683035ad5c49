/- Package inflate: a stored block: plain, and the walk of store. -/
import Derived.Test.YtcddlnmfdjfjfaaSyms
namespace Go.Proofs.Ytcddlnmfdjfjfaa
open Go.RowKit
set_option linter.unusedVariables false

def storeEnd (s : ByteArray) (most : Nat) (out : List Nat) (n : Nat) (r : Nat × Nat) : Except Nat (List Nat × Nat) :=
  if r.1 = 65535 - n then
    (if txBad s r.2 false (n : Nat) = true then .error 3 else if out.length + n ≤ most then .ok (out ++ bytesOf (txStr s r.2 false (n : Nat)), txTo s r.2 false (n : Nat)) else .error 4)
  else .error 2
def storeP (s : ByteArray) (most : Nat) (out : List Nat) (a : Nat) : Except Nat (List Nat × Nat) :=
  takeP s (alTo a false) 16 >>= fun r => takeP s r.2 16 >>= storeEnd s most out r.1

theorem xor_low (n : Nat) (h : n < 65536) : n ^^^ 65535 = 65535 - n := by
  have h2 : BitVec.ofNat 16 n ^^^ 65535#16 = 65535#16 - BitVec.ofNat 16 n := by
    rw [show (65535#16 : BitVec 16) = BitVec.allOnes 16 from rfl, BitVec.xor_allOnes, BitVec.allOnes_sub_eq_not]
  have h3 := congrArg BitVec.toNat h2
  have e1 : n % 2 ^ 16 = n := Nat.mod_eq_of_lt h
  have e2 : 65535 % 2 ^ 16 = 65535 := rfl
  simp only [BitVec.toNat_xor, BitVec.toNat_ofNat, BitVec.toNat_sub, e1, e2] at h3
  omega
theorem xor_i64 (n : Nat) (h : n < 65536) : bits .xor .i64 (n : Int) 65535 = ((65535 - n : Nat) : Int) := by
  have h1 : (BitVec.ofInt 64 (n : Int)).toNat = n := by
    rw [BitVec.ofInt_natCast, BitVec.toNat_ofNat]; exact Nat.mod_eq_of_lt (by omega)
  have h2 : (BitVec.ofInt 64 65535).toNat = 65535 := by rfl
  show IntKind.i64.wrap ((BitVec.ofInt 64 (n : Int) ^^^ BitVec.ofInt 64 65535).toNat : Int) = _
  rw [BitVec.toNat_xor, h1, h2, xor_low n h]
  exact IntWalk.i64_in _ (by omega)

set_option maxRecDepth 100000 in
set_option maxHeartbeats 6400000 in
theorem store_any (x b : Nat) (v : Value) (w : World) (s : ByteArray) (a : Nat) (out : List Nat) (most : Nat) (h : StAt w x b v s a out most) (hs : s.size ≤ 1099511627776) :
    Calls Try.prog 65 #[.pointer (some ⟨x, 0, none⟩)] w (MakePost w x b v s most (.tuple #[]) (storeP s most out a)) := by
  have HS := Lib.hid (show storeP s most out a = (takeP s (alTo a false) 16 >>= fun r => takeP s r.2 16 >>= storeEnd s most out r.1) by rfl)
  generalize storeP s most out a = CP at *
  obtain ⟨i1, hi1, hy0, hy1, hy2⟩ := info_parts infoU8
  have c0 := h.blk.cell 0 rfl
  go_enter Try.func65, Try.ntmps65
  go_wp2_with fail
  refine (align_read b w s a false h.rd hs).mono ?_
  rintro e w1 ⟨rfl, hR1, hU1⟩
  have h1 := h.read hU1 hR1
  have c1 := h1.blk.cell 0 rfl
  have hU1' := hU1
  clear hU1 hR1
  rcases takeP_cases s (alTo a false) 16 with ⟨n, hn, hna, htk⟩ | htk
  · have hE : CP = (takeP s (alTo a false + 16) 16 >>= storeEnd s most out n) := by rw [HS.out, htk]; rfl
    have HE := Lib.hid hE
    clear hE HS
    go_wp2_with fail
    refine (take_ok h1.rd hs (by omega) htk).mono ?_
    rintro e w2 ⟨rfl, hR2, hU2⟩
    have h2 := h1.read hU2 hR2
    have c2 := h2.blk.cell 0 rfl
    have hUw2 : Upd (stFp x b v) w w2 := upd_st (hU1'.then hU2)
    clear hU2 hR2 htk
    have hxor := xor_i64 n hn
    rcases takeP_cases s (alTo a false + 16) 16 with ⟨m, hm, hma, htk⟩ | htk
    · have hE : CP = storeEnd s most out n (m, alTo a false + 16 + 16) := by rw [HE.out, htk]; rfl
      unfold storeEnd at hE
      simp only at hE
      have HE := Lib.hid hE
      clear hE
      by_cases hmn : m = 65535 - n
      · have hE := HE.out
        rw [if_pos hmn] at hE
        have HE := Lib.hid hE
        clear hE
        have t1 : (m == 65535 - n) = true := by simp [hmn]
        have t2 : ((m : Int) == ((65535 - n : Nat) : Int)) = true := by rw [hmn]; simp
        have t3 : decide (m = 65535 - n) = true := decide_eq_true hmn
        go_wp2_with fail
        refine (take_ok h2.rd hs (by omega) htk).mono ?_
        rintro e w3 ⟨rfl, hR3, hU3⟩
        have h3 := h2.read hU3 hR3
        have c3 := h3.blk.cell 0 rfl
        have hUw3 := hUw2.then (upd_st (v := v) (x := x) hU3)
        clear hU3 hR3 htk
        go_wp2_with fail
        refine (must_yes _).mono ?_
        rintro e w4 ⟨rfl, rfl⟩
        clear t1 t2 t3 hxor hmn hm hma h2 c2 h1 c1 c0 hU1'
        have hT := Lib.hid (text_read b (n : Nat) w3 s (alTo a false + 16 + 16) false h3.rd hs)
        cases hbad : txBad s (alTo a false + 16 + 16) false (n : Nat) with
        | true =>
          rw [hbad] at hT
          have HE := Lib.hid (show CP = .error 3 by rw [HE.out, if_pos hbad])
          go_wp2_with fail
          refine hT.out.mono ?_
          rintro e w4 ⟨rfl, hR4, hU4⟩
          have c4 := (h3.blk.upd hU4 (by simpa using h.xb)).cell 0 rfl
          go_wp2_with fail
          refine (fine_any b w4 _ s _ true hR4).mono ?_
          rintro e w5 ⟨rfl, rfl⟩
          go_wp2
          rw [HE.out]
          exact ⟨rfl, rfl, hUw3.then (upd_st hU4)⟩
        | false =>
          rw [hbad] at hT
          have hE : CP = if out.length + n ≤ most then .ok (out ++ bytesOf (txStr s (alTo a false + 16 + 16) false (n : Nat)), txTo s (alTo a false + 16 + 16) false (n : Nat)) else .error 4 := by rw [HE.out, if_neg (by rw [hbad]; simp)]
          have hTl : (txStr s (alTo a false + 16 + 16) false (n : Nat)).size = n := by
            unfold txStr
            rw [hbad, if_neg (by simp)]
            simp [txBad] at hbad
            rw [ByteArray.size_extract]
            omega
          generalize txStr s (alTo a false + 16 + 16) false (n : Nat) = T at *
          generalize txTo s (alTo a false + 16 + 16) false (n : Nat) = a5 at *
          generalize alTo a false + 16 + 16 = a4 at *
          have HE := Lib.hid hE
          clear hE
          go_wp2_with fail
          refine hT.out.mono ?_
          rintro e w4 ⟨rfl, hR4, hU4⟩
          have h4 := h3.read hU4 hR4
          have hUw4 := hUw3.then (upd_st (v := v) (x := x) hU4)
          have c4 := h4.blk.cell 0 rfl
          clear hT hbad hUw3 h3 c3
          go_wp2_with fail
          refine (fine_any b w4 _ s _ false hR4).mono ?_
          rintro e w5 ⟨rfl, rfl⟩
          by_cases hroom : out.length + n ≤ most
          · have HE := Lib.hid (show CP = .ok (out ++ bytesOf T, a5) by rw [HE.out, if_pos hroom])
            go_wp2_with fail
            refine (room_yes x b n v _ s _ out most h4 hroom).mono ?_
            rintro e w8 ⟨rfl, k8, rfl⟩
            have h8 := h4.pure ((Upd.refl [] _).drewN k8)
            have hUw8 := hUw4.drewN k8
            clear h4 hUw4 hR4 hU4 c4
            generalize w4.drewN k8 = w8 at *
            obtain ⟨va, vc, rfl⟩ := h8.row.form
            have hrow := h8.row
            have hblk := h8.blk
            have hcap := h8.cap
            have c1 := hblk.cell 1 rfl
            have f1 := hblk.frz 1
            have hfx : x ∉ (Value.slice va out.length vc).ownBlock.toList := by have := h8.vx; simpa [eq_comm] using this
            go_wp2_with (at_builtin; refine wpList_app_str _ rfl _ _ 23 9 rfl 5 i1 Try.underlying23 Try.underlying9 hi1 hy0 hy1 hy2 (.slice va out.length vc) _ _ rfl hrow T rfl (by unfold maxLen; omega) (by omega) ?_)
            rintro v9 w9 hR9 hU9 hT9
            obtain ⟨va9, vc9, rfl⟩ := hR9.form
            have hB9 := hblk.upd hU9 hfx
            have k9 := hB9.cell 1 rfl
            have f9 := hB9.frz 1
            rw [strCells_eq] at hR9
            obtain ⟨hS9, hU', hT'⟩ := h8.push (.refl _ _) (bytesOf T) hR9 hU9 hT9 (by rw [length_bytesOf]; omega) (bytesOf_lt T)
            go_wp2
            go_returns
            rw [HE.out]
            exact ⟨rfl, _, hS9, hUw8.then hU', hT'.imp id fun ⟨g, h1, h2⟩ => ⟨g, h1, Nat.le_trans hUw8.size h2⟩⟩
          · have HE := Lib.hid (show CP = .error 4 by rw [HE.out, if_neg hroom])
            go_wp2_with fail
            refine (room_no x b n v _ s _ out most h4 hroom (by omega)).mono ?_
            rintro e w8 ⟨rfl, k8, rfl⟩
            go_wp2
            rw [HE.out]
            exact ⟨rfl, rfl, hUw4.drewN k8⟩
      · have hE := HE.out
        rw [if_neg hmn] at hE
        have HE := Lib.hid hE
        clear hE
        have t1 : (m == 65535 - n) = false := by simp [hmn]
        have t2 : ((m : Int) == ((65535 - n : Nat) : Int)) = false := by simp; omega
        have t3 : decide (m = 65535 - n) = false := decide_eq_false hmn
        go_wp2_with fail
        refine (take_ok h2.rd hs (by omega) htk).mono ?_
        rintro e w3 ⟨rfl, hR3, hU3⟩
        go_wp2_with fail
        refine (must_no _).mono ?_
        rintro e w4 ⟨rfl, rfl⟩
        go_wp2
        rw [HE.out]
        exact ⟨rfl, rfl, hUw2.then (upd_st hU3)⟩
    · have HE := Lib.hid (show CP = .error 3 by rw [HE.out, htk]; rfl)
      go_wp2_with fail
      refine (take_err h2.rd hs (by omega) htk).mono ?_
      rintro e w3 ⟨rfl, hU3⟩
      go_wp2
      rw [HE.out]
      exact ⟨rfl, rfl, hUw2.then (upd_st hU3)⟩
  · have HE := Lib.hid (show CP = .error 3 by rw [HS.out, htk]; rfl)
    go_wp2_with fail
    refine (take_err h1.rd hs (by omega) htk).mono ?_
    rintro e w3 ⟨rfl, hU3⟩
    go_wp2
    rw [HE.out]
    exact ⟨rfl, rfl, upd_st (hU1'.then hU3)⟩
end Go.Proofs.Ytcddlnmfdjfjfaa

/- Package dos: Of; the closure of Parse: walks. -/
import Derived.Lib.ConvBytes
import Derived.Test.YtigjingielnaoaaDoorQAC
import Derived.Test.YtigjingielnaoaaDoorDTxt
import Derived.Test.YtigjingielnaoaaDoorQAG
import Derived.Test.YtigjingielnaoaaDoorNameU
namespace Go.Proofs.YtigjingielnaoaaDoor
set_option linter.unusedVariables false
set_option linter.unusedSimpArgs false
set_option linter.unusedSectionVars false
open Go.RowKit
set_option linter.unusedVariables false
set_option linter.unusedSimpArgs false

theorem or_u32c (a b : Nat) (ha : a < 4294967296) (hb : b < 4294967296) : bits .or .u32 (a : Int) (b : Int) = ((a ||| b : Nat) : Int) := by
  show IntKind.u32.wrap ((BitVec.ofInt 32 (a : Int) ||| BitVec.ofInt 32 (b : Int)).toNat : Int) = _
  rw [BitVec.toNat_or, ofInt_nat 32 a (by omega), ofInt_nat 32 b (by omega)]
  have := Nat.or_lt_two_pow (n := 32) ha hb
  show ((a ||| b : Nat) : Int) % 4294967296 = _
  omega
theorem or_add (a b k : Nat) (hb : b < 2 ^ k) : 2 ^ k * a ||| b = 2 ^ k * a + b := (Nat.two_pow_add_eq_or_of_lt hb a).symm
/-- A time of parts that may be. -/
def ofN (y mo d h mi s : Nat) : Nat := (y - 1980) * 33554432 + mo * 2097152 + d * 65536 + h * 2048 + mi * 32 + s / 2
theorem rightG_nat {y mo d h mi s : Int} (hr : rightG y mo d h mi s = true) : ∃ yn mn dn hn ni sn : Nat, y = yn ∧ mo = mn ∧ d = dn ∧ h = hn ∧ mi = ni ∧ s = sn ∧ 1980 ≤ yn ∧ yn ≤ 2107 ∧ mn ≤ 12 ∧ dn ≤ 31 ∧ hn < 24 ∧ ni < 60 ∧ sn < 60 := by
  unfold rightG at hr
  simp only [Bool.and_eq_true, decide_eq_true_eq] at hr
  obtain ⟨⟨⟨⟨⟨d1, d2⟩, h0, h1⟩, i0, i1⟩, s0, s1⟩, s2⟩ := hr
  unfold daysG daysN at d2
  have hy : 1980 ≤ y ∧ y ≤ 2107 := by
    by_cases e : y < 1980 ∨ 2107 < y
    · rw [if_pos e] at d2; omega
    · omega
  rw [if_neg (by omega)] at d2
  have hm : 1 ≤ mo ∧ mo ≤ 12 := by
    by_cases e : mo < 1 ∨ 12 < mo
    · rw [if_pos e] at d2; omega
    · omega
  have hd : d ≤ 31 := by
    repeat' split at d2
    all_goals omega
  exact ⟨y.toNat, mo.toNat, d.toNat, h.toNat, mi.toNat, s.toNat, by omega, by omega, by omega, by omega, by omega, by omega, by omega, by omega, by omega, by omega, by omega, by omega, by omega⟩
def ofV (y mo d h mi s : Int) : Value := if rightG y mo d h mi s = true then .tuple #[.int .u32 (ofN y.toNat mo.toNat d.toNat h.toNat mi.toNat s.toNat : Nat), .bool true] else .tuple #[.int .u32 0, .bool false]
set_option maxRecDepth 100000 in
set_option maxHeartbeats 3200000 in
theorem dosOf_any (y mo d h mi s : Int) (w : World) : Calls Tryd.prog 59 #[.agg #[.int .i64 y, .int .i64 mo, .int .i64 d, .int .i64 h, .int .i64 mi, .int .i64 s]] w fun e w' => e = .returned (ofV y mo d h mi s) ∧ Upd [] w w' := by
  have HR := Lib.hid (fun w => dright_gen y mo d h mi s w)
  cases hr : rightG y mo d h mi s with
  | false =>
    have HV : Hid (ofV y mo d h mi s = .tuple #[.int .u32 0, .bool false]) := Lib.hid (by unfold ofV; rw [hr]; rfl)
    rw [hr] at HR
    clear hr
    go_enter Tryd.func59, Tryd.ntmps59
    go_wp2_with fail
    refine (HR.out _).mono ?_
    rintro e w1 ⟨rfl, hu1⟩
    go_wp2
    go_ret2
    exact ⟨by rw [HV.out]; rfl, ((Upd.refl [] w).alloc _).then hu1⟩
  | true =>
    have HV : Hid (ofV y mo d h mi s = .tuple #[.int .u32 (ofN y.toNat mo.toNat d.toNat h.toNat mi.toNat s.toNat : Nat), .bool true]) := Lib.hid (by unfold ofV; rw [hr]; rfl)
    rw [hr] at HR
    obtain ⟨yn, mn, dn, hn, ni, sn, rfl, rfl, rfl, rfl, rfl, rfl, c1, c2, c3, c4, c5, c6, c7⟩ := rightG_nat hr
    clear hr
    simp only [Int.toNat_natCast] at HV
    have hB := Blk.new w [.int .i64 (yn : Nat), .int .i64 (mn : Nat), .int .i64 (dn : Nat), .int .i64 (hn : Nat), .int .i64 (ni : Nat), .int .i64 (sn : Nat)] 92
    have HB := Lib.hid hB
    clear hB
    go_enter Tryd.func59, Tryd.ntmps59
    go_wp2_with fail
    refine (HR.out _).mono ?_
    rintro e w1 ⟨rfl, hu1⟩
    have hB1 := HB.out.upd hu1 (by simp)
    have HU1 := Lib.hid (((Upd.refl [] w).alloc (.cells #[.int .i64 (yn : Nat), .int .i64 (mn : Nat), .int .i64 (dn : Nat), .int .i64 (hn : Nat), .int .i64 (ni : Nat), .int .i64 (sn : Nat)] 92)).then hu1)
    have g0 := hB1.cell 0 rfl
    have g1 := hB1.cell 1 rfl
    have g2 := hB1.cell 2 rfl
    have g3 := hB1.cell 3 rfl
    have g4 := hB1.cell 4 rfl
    have g5 := hB1.cell 5 rfl
    clear hB1 hu1 HB
    obtain ⟨an, rfl⟩ : ∃ a : Nat, yn = 1980 + a := ⟨yn - 1980, by omega⟩
    go_wp2
    go_ret2
    refine ⟨?_, HU1.out⟩
    rw [HV.out]
    have o1 : bits .or .u32 ((1980 + (an : Int) - 1980) * 33554432) ((mn : Int) * 2097152) = ((2 ^ 25 * an + mn * 2097152 : Nat) : Int) := by
      rw [show (1980 + (an : Int) - 1980) * 33554432 = ((2 ^ 25 * an : Nat) : Int) by omega, show (mn : Int) * 2097152 = ((mn * 2097152 : Nat) : Int) by omega, or_u32c _ _ (by omega) (by omega), or_add _ _ 25 (by omega)]
    have o2 : bits .or .u32 ((2 ^ 25 * an + mn * 2097152 : Nat) : Int) ((dn : Int) * 65536) = ((2 ^ 21 * (16 * an + mn) + dn * 65536 : Nat) : Int) := by
      rw [show (dn : Int) * 65536 = ((dn * 65536 : Nat) : Int) by omega, or_u32c _ _ (by omega) (by omega), show 2 ^ 25 * an + mn * 2097152 = 2 ^ 21 * (16 * an + mn) by omega, or_add _ _ 21 (by omega)]
    have o3 : bits .or .u32 ((2 ^ 21 * (16 * an + mn) + dn * 65536 : Nat) : Int) ((hn : Int) * 2048) = ((2 ^ 16 * (32 * (16 * an + mn) + dn) + hn * 2048 : Nat) : Int) := by
      rw [show (hn : Int) * 2048 = ((hn * 2048 : Nat) : Int) by omega, or_u32c _ _ (by omega) (by omega), show 2 ^ 21 * (16 * an + mn) + dn * 65536 = 2 ^ 16 * (32 * (16 * an + mn) + dn) by omega, or_add _ _ 16 (by omega)]
    have o4 : bits .or .u32 ((2 ^ 16 * (32 * (16 * an + mn) + dn) + hn * 2048 : Nat) : Int) ((ni : Int) * 32) = ((2 ^ 11 * (32 * (32 * (16 * an + mn) + dn) + hn) + ni * 32 : Nat) : Int) := by
      rw [show (ni : Int) * 32 = ((ni * 32 : Nat) : Int) by omega, or_u32c _ _ (by omega) (by omega), show 2 ^ 16 * (32 * (16 * an + mn) + dn) + hn * 2048 = 2 ^ 11 * (32 * (32 * (16 * an + mn) + dn) + hn) by omega, or_add _ _ 11 (by omega)]
    have o5 : bits .or .u32 ((2 ^ 11 * (32 * (32 * (16 * an + mn) + dn) + hn) + ni * 32 : Nat) : Int) ((sn : Int) / 2) = ((ofN (1980 + an) mn dn hn ni sn : Nat) : Int) := by
      rw [show (sn : Int) / 2 = ((sn / 2 : Nat) : Int) by omega, or_u32c _ _ (by omega) (by omega), show 2 ^ 11 * (32 * (32 * (16 * an + mn) + dn) + hn) + ni * 32 = 2 ^ 5 * (64 * (32 * (32 * (16 * an + mn) + dn) + hn) + ni) by omega, or_add _ _ 5 (by omega)]
      unfold ofN
      congr 1
      omega
    show Ending.returned (.tuple #[.int .u32 (bits .or .u32 (bits .or .u32 (bits .or .u32 (bits .or .u32 (bits .or .u32 ((1980 + (an : Int) - 1980) * 33554432) ((mn : Int) * 2097152)) ((dn : Int) * 65536)) ((hn : Int) * 2048)) ((ni : Int) * 32)) ((sn : Int) / 2)), .bool true]) = _
    rw [o1, o2, o3, o4, o5]
/-- The number of digits (whatever signs they are). -/
def numD (l : List Nat) : Int := l.foldl (fun (n : Int) (c : Nat) => 10 * n + (c : Int) - 48) (0 : Int)
theorem numD_snoc (l : List Nat) (c : Nat) : numD (l ++ [c]) = 10 * numD l + (c : Int) - 48 := by unfold numD; rw [List.foldl_append]; rfl
theorem numD_bd : ∀ (n : Nat) (l : List Nat), l.length = n → (∀ x ∈ l, x < 256) → -(6 * ((10 : Int) ^ n - 1)) ≤ numD l ∧ numD l ≤ 30 * ((10 : Int) ^ n - 1)
  | 0, l, h, _ => by rw [List.eq_nil_of_length_eq_zero h]; simp [numD]
  | n + 1, l, h, hl => by
    rcases List.eq_nil_or_concat l with rfl | ⟨L, c, rfl⟩
    · simp at h
    · rw [List.concat_eq_append] at h hl ⊢
      have hLn : L.length = n := by rw [List.length_append] at h; simp at h; exact h
      have ih := numD_bd n L hLn (fun x hx => hl x (List.mem_append_left _ hx))
      have hc := hl c (by simp)
      rw [numD_snoc, Int.pow_succ]
      generalize (10 : Int) ^ n = T at *
      generalize numD L = N at *
      omega
theorem upd_bytesWorld (w : World) (e : TypeId) (s : ByteArray) : Upd [] w (Lib.bytesWorld w e s) := by
  refine ⟨rfl, rfl, rfl, by rw [Lib.bytesWorld_size]; omega, fun k hk _ => Lib.bytesWorld_at_old w e s k hk⟩
set_option maxRecDepth 100000 in
set_option maxHeartbeats 1600000 in
theorem parse1_any (S : ByteArray) (a b g : Nat) (w : World) (hg : w.cell? ⟨g, 0, none⟩ = some (.string S)) (hab : a ≤ b) (hb : b ≤ S.size) (h4 : b - a ≤ 4) :
    Calls Tryd.prog 58 #[.int .i64 (a : Nat), .int .i64 (b : Nat), .pointer (some ⟨g, 0, none⟩)] w fun e w' => e = .returned (.int .i64 (numD (((bytesOf S).drop a).take (b - a)))) ∧ Upd [] w w' := by
  have hz0 : (0 : Int) ≤ (a : Int) := by omega
  have hz1 : (a : Int) ≤ (b : Int) := by omega
  have hz2 : (b : Int) ≤ (S.size : Int) := by omega
  have hcv := fun w => Lib.run_convert_string_bytes (P := Tryd.prog) w 9 85 5 (S.extract a b) Tryd.underlying9 Tryd.underlying85 Tryd.underlying5
  have HU := Lib.hid (upd_bytesWorld w 5 (S.extract a b))
  have HC := Lib.hid (fun j hj => Lib.bytesWorld_cell w 5 (S.extract a b) j hj)
  have hXb : Hid (bytesOf (S.extract a b) = ((bytesOf S).drop a).take (b - a)) := Lib.hid (bytesOf_extract S a b)
  have hXs : (S.extract a b).size = b - a := by rw [ByteArray.size_extract]; omega
  have hXb2 := hXb.out
  obtain ⟨V, hV⟩ : ∃ V, ((bytesOf S).drop a).take (b - a) = V := ⟨_, rfl⟩
  rw [hV] at hXb2 ⊢
  have HXV := Lib.hid hXb2
  clear hXb hXb2 hV
  have hXs4 : (S.extract a b).size ≤ 4 := by omega
  have HSZ := Lib.hid hXs
  clear hXs
  go_enter Tryd.func58, Tryd.ntmps58
  go_wp2
  generalize S.extract a b = X at *
  generalize hw1 : Lib.bytesWorld w 5 X = w1 at *
  clear hcv hw1
  generalize w.heap.size = q0 at *
  generalize b - a = m at *
  go_loopg [5, 14] m (fun gg s5 s14 wr => ∃ i, i ≤ m ∧ gg = m - i ∧ s14 = .int .i64 (i : Nat) ∧ s5 = .int .i64 (numD ((bytesOf X).take i)) ∧ Hid (wr = w1))
  case atStart => exact ⟨0, Nat.zero_le _, rfl, rfl, rfl, Lib.hid rfl⟩
  case round =>
    obtain ⟨i, hin, rfl, rfl, rfl, HW⟩ := hrel
    have hwr := HW.out.symm
    subst hwr
    clear HW
    by_cases hc : i < m
    · have hcz : (i : Int) < (m : Int) := by omega
      have hXm := HSZ.out
      have hcX : i < X.size := by omega
      have hbl := length_bytesOf X
      have hil : i < (bytesOf X).length := by omega
      have hce := HC.out i hcX
      have hge : (X.data.toList.getD i 0).toNat = (bytesOf X)[i] := by
        have h1 : i < X.data.toList.length := by simpa using hcX
        rw [bytesOf_get X i hcX hil, List.getD, List.getElem?_eq_getElem h1]; rfl
      have hT : Hid ((bytesOf X).take (i + 1) = (bytesOf X).take i ++ [(bytesOf X)[i]]) := Lib.hid (List.take_succ_eq_append_getElem hil)
      rw [hge] at hce
      have hlt := bytesOf_lt X _ (List.getElem_mem hil)
      have hbd := numD_bd _ ((bytesOf X).take i) rfl (fun x hx => bytesOf_lt X x (List.mem_of_mem_take hx))
      have hpw : (10 : Int) ^ ((bytesOf X).take i).length ≤ 1000 := by
        have : ((bytesOf X).take i).length ≤ 3 := by rw [List.length_take]; omega
        rcases (by omega : ((bytesOf X).take i).length = 0 ∨ ((bytesOf X).take i).length = 1 ∨ ((bytesOf X).take i).length = 2 ∨ ((bytesOf X).take i).length = 3) with e | e | e | e <;> rw [e] <;> decide
      have HSN : Hid (numD ((bytesOf X).take (i + 1)) = 10 * numD ((bytesOf X).take i) + ((bytesOf X)[i] : Nat) - 48) := Lib.hid (by rw [hT.out, numD_snoc])
      generalize (bytesOf X)[i] = c at *
      generalize numD ((bytesOf X).take i) = N at *
      have hN1 : -6000 ≤ N := by omega
      have hN2 : N ≤ 30000 := by omega
      clear hbd hpw hge hT hbl hil hXm
      go_wp2
      go_roundg (m - (i + 1))
      · exact ⟨i + 1, by omega, rfl, by first | rfl | go_num, by rw [HSN.out], Lib.hid rfl⟩
      · omega
    · have hcz : ¬ (i : Int) < (m : Int) := by omega
      have hix : i = m := by omega
      have HT : Hid ((bytesOf X).take i = bytesOf X) := Lib.hid (List.take_of_length_le (by rw [length_bytesOf]; have := HSZ.out; omega))
      rw [HT.out, HXV.out]
      go_wp2
      go_ret
      exact ⟨rfl, HU.out⟩
end Go.Proofs.YtigjingielnaoaaDoor

/- Packages dos and swingleref12: Split, Text: walks. -/
import Derived.Deep.QuietTactic
import Derived.BigQuiet
import Derived.Test.YtigjingielnaoaaDoorQAD
import Derived.Test.YtigjingielnaoaaDoorQAB
namespace Go.Proofs.YtigjingielnaoaaDoor
set_option linter.unusedVariables false
set_option linter.unusedSimpArgs false
set_option linter.unusedSectionVars false
open Go.RowKit
set_option linter.unusedVariables false
set_option linter.unusedSimpArgs false

def yN (t : Nat) : Nat := 1980 + t / 33554432 % 128
def moN (t : Nat) : Nat := t / 2097152 % 16
def dN (t : Nat) : Nat := t / 65536 % 32
def hN (t : Nat) : Nat := t / 2048 % 32
def miN (t : Nat) : Nat := t / 32 % 64
def sN (t : Nat) : Nat := 2 * (t % 32)
def partsN (y mo d h mi s : Nat) : List Value := [.int .i64 (y : Nat), .int .i64 (mo : Nat), .int .i64 (d : Nat), .int .i64 (h : Nat), .int .i64 (mi : Nat), .int .i64 (s : Nat)]
theorem partsL_eq (t : Nat) : partsL t = partsN (yN t) (moN t) (dN t) (hN t) (miN t) (sN t) := by
  unfold partsL partsN yN moN dN hN miN sN
  rw [show ((1980 + t / 33554432 % 128 : Nat) : Int) = 1980 + (t : Int) / 33554432 % 128 by omega, show ((t / 2097152 % 16 : Nat) : Int) = (t : Int) / 2097152 % 16 by omega, show ((t / 65536 % 32 : Nat) : Int) = (t : Int) / 65536 % 32 by omega, show ((t / 2048 % 32 : Nat) : Int) = (t : Int) / 2048 % 32 by omega, show ((t / 32 % 64 : Nat) : Int) = (t : Int) / 32 % 64 by omega, show ((2 * (t % 32) : Nat) : Int) = 2 * ((t : Int) % 32) by omega]
theorem parts_bd (t : Nat) : yN t < 2108 ∧ moN t < 16 ∧ dN t < 32 ∧ hN t < 32 ∧ miN t < 64 ∧ sN t < 64 := by
  unfold yN moN dN hN miN sN
  omega
/-- A time's text from its parts. -/
def clockP (y mo d h mi s : Nat) : List Nat := digP y 4 ++ [45] ++ digP mo 2 ++ [45] ++ digP d 2 ++ [32] ++ digP h 2 ++ [58] ++ digP mi 2 ++ [58] ++ digP s 2
def dosTextP (t : Nat) : List Nat := if timeB t = true then clockP (yN t) (moN t) (dN t) (hN t) (miN t) (sN t) else []
theorem strOf_cat (a b : List Nat) : strOf (a ++ b) = strOf a ++ strOf b := by
  apply ByteArray.ext
  apply Array.ext'
  simp [strOf, ByteArray.data_append]
theorem results_dt {fn : Func} {p t : Tmp} (h : fn.results = #[.cell p 92, .tmp t]) (tmps : Array Value) (w : World) (g : Nat) (c0 c1 c2 c3 c4 c5 : Value) (hp : tmps.getD p undef = .pointer (some ⟨g, 0, none⟩)) (hB : Blk w g [c0, c1, c2, c3, c4, c5] 92) :
    (results fn tmps).run Tryd.prog w = .ok (.tuple #[.agg #[c0, c1, c2, c3, c4, c5], tmps.getD t undef]) w := by
  have h0 := hB.cell 0 rfl
  have h1 := hB.cell 1 rfl
  have h2 := hB.cell 2 rfl
  have h3 := hB.cell 3 rfl
  have h4 := hB.cell 4 rfl
  have h5 := hB.cell 5 rfl
  have hp2 : tmps[p]?.getD undef = .pointer (some ⟨g, 0, none⟩) := by rw [← hp]; simp
  simp [results, h, go_sem, hp2, h0, h1, h2, h3, h4, h5]
def splitTV (t : Nat) : Value := .tuple #[.agg (if timeB t = true then partsL t else [.int .i64 0, .int .i64 0, .int .i64 0, .int .i64 0, .int .i64 0, .int .i64 0]).toArray, .bool (timeB t)]
set_option maxRecDepth 100000 in
set_option maxHeartbeats 1600000 in
theorem dSplit_any (t : Nat) (w : World) (ht : t < 4294967296) : Calls Tryd.prog 66 #[.int .u32 (t : Nat)] w fun e w' => e = .returned (splitTV t) ∧ Upd [] w w' := by
  have HS := Lib.hid (fun w => dsplit_any t w ht)
  have HR := Lib.hid (fun w' => dright_any _ _ _ _ _ _ w' (parts_ok t))
  have HT := Lib.hid (show timeB t = rightB (1980 + (t : Int) / 33554432 % 128) ((t : Int) / 2097152 % 16) ((t : Int) / 65536 % 32) ((t : Int) / 2048 % 32) ((t : Int) / 32 % 64) (2 * ((t : Int) % 32)) from rfl)
  have HV : Hid (splitTV t = .tuple #[.agg (if timeB t = true then partsL t else [.int .i64 0, .int .i64 0, .int .i64 0, .int .i64 0, .int .i64 0, .int .i64 0]).toArray, .bool (timeB t)]) := Lib.hid rfl
  rw [← HT.out] at HR
  clear HT
  unfold partsL at HS HV
  generalize timeB t = tb at *
  generalize 1980 + (t : Int) / 33554432 % 128 = y at *
  generalize (t : Int) / 2097152 % 16 = mo at *
  generalize (t : Int) / 65536 % 32 = d at *
  generalize (t : Int) / 2048 % 32 = h at *
  generalize (t : Int) / 32 % 64 = mi at *
  generalize 2 * ((t : Int) % 32) = s at *
  have HB0 := Lib.hid (Blk.new w [.int .i64 0, .int .i64 0, .int .i64 0, .int .i64 0, .int .i64 0, .int .i64 0] 92)
  have HU0 := Lib.hid ((Upd.refl [] w).alloc (.cells #[.int .i64 0, .int .i64 0, .int .i64 0, .int .i64 0, .int .i64 0, .int .i64 0] 92))
  have HG0 := Lib.hid (Nat.le_refl w.heap.size)
  go_enter Tryd.func66, Tryd.ntmps66
  go_wp2_with fail
  generalize hr0 : w.heap.size = r0 at *
  have HG : Hid (w.heap.size ≤ r0) := Lib.hid (by omega)
  clear HG0 hr0
  refine (HS.out _).mono ?_
  rintro e w1 ⟨rfl, hu1⟩
  have HB1 := Lib.hid ((HB0.out.upd hu1 (by simp)).alloc (.cells #[.int .i64 y, .int .i64 mo, .int .i64 d, .int .i64 h, .int .i64 mi, .int .i64 s] 92))
  have HQ1 := Lib.hid (Blk.new w1 [.int .i64 y, .int .i64 mo, .int .i64 d, .int .i64 h, .int .i64 mi, .int .i64 s] 92)
  have HU1 := Lib.hid ((HU0.out.then hu1).alloc (.cells #[.int .i64 y, .int .i64 mo, .int .i64 d, .int .i64 h, .int .i64 mi, .int .i64 s] 92))
  have hne : r0 < w1.heap.size := (HB0.out.upd hu1 (by simp)).lt
  clear HB0 HU0 hu1
  go_wp2_with fail
  generalize w1.heap.size = q1 at *
  refine (HR.out _).mono ?_
  rintro e w2 ⟨rfl, hu2⟩
  have hB2 := HB1.out.upd hu2 (by simp)
  have hQ2 := HQ1.out.upd hu2 (by simp)
  have HU2 := Lib.hid (HU1.out.then hu2)
  clear HB1 HQ1 HU1 hu2
  have c0 := hB2.cell 0 rfl
  have f0 := hB2.frz 0
  have d0 := hQ2.cell 0 rfl
  have c1 := hB2.cell 1 rfl
  have f1 := hB2.frz 1
  have d1 := hQ2.cell 1 rfl
  have c2 := hB2.cell 2 rfl
  have f2 := hB2.frz 2
  have d2 := hQ2.cell 2 rfl
  have c3 := hB2.cell 3 rfl
  have f3 := hB2.frz 3
  have d3 := hQ2.cell 3 rfl
  have c4 := hB2.cell 4 rfl
  have f4 := hB2.frz 4
  have d4 := hQ2.cell 4 rfl
  have c5 := hB2.cell 5 rfl
  have f5 := hB2.frz 5
  have d5 := hQ2.cell 5 rfl
  have HB2 := Lib.hid hB2
  clear hB2 hQ2
  cases tb with
  | false =>
    go_wp2_with fail
    (try simp only [Exit.inBlock, Exit.then]); refine bodyPost_ret (results_dt rfl _ _ r0 _ _ _ _ _ _ rfl (Blk.set (Blk.set (Blk.set (Blk.set (Blk.set (Blk.set HB2.out 0 (.int .i64 0)) 1 (.int .i64 0)) 2 (.int .i64 0)) 3 (.int .i64 0)) 4 (.int .i64 0)) 5 (.int .i64 0))) rfl ⟨?_, (Upd.setCell (Upd.setCell (Upd.setCell (Upd.setCell (Upd.setCell (Upd.setCell HU2.out (p := ⟨r0, 0, none⟩) (.inr HG.out) (.int .i64 0)) (p := ⟨r0, 1, none⟩) (.inr HG.out) (.int .i64 0)) (p := ⟨r0, 2, none⟩) (.inr HG.out) (.int .i64 0)) (p := ⟨r0, 3, none⟩) (.inr HG.out) (.int .i64 0)) (p := ⟨r0, 4, none⟩) (.inr HG.out) (.int .i64 0)) (p := ⟨r0, 5, none⟩) (.inr HG.out) (.int .i64 0))⟩
    rw [HV.out]; rfl
  | true =>
    go_wp2_with fail
    (try simp only [Exit.inBlock, Exit.then]); refine bodyPost_ret (results_dt rfl _ _ r0 _ _ _ _ _ _ rfl (Blk.set (Blk.set (Blk.set (Blk.set (Blk.set (Blk.set HB2.out 0 (.int .i64 y)) 1 (.int .i64 mo)) 2 (.int .i64 d)) 3 (.int .i64 h)) 4 (.int .i64 mi)) 5 (.int .i64 s))) rfl ⟨?_, (Upd.setCell (Upd.setCell (Upd.setCell (Upd.setCell (Upd.setCell (Upd.setCell HU2.out (p := ⟨r0, 0, none⟩) (.inr HG.out) (.int .i64 y)) (p := ⟨r0, 1, none⟩) (.inr HG.out) (.int .i64 mo)) (p := ⟨r0, 2, none⟩) (.inr HG.out) (.int .i64 d)) (p := ⟨r0, 3, none⟩) (.inr HG.out) (.int .i64 h)) (p := ⟨r0, 4, none⟩) (.inr HG.out) (.int .i64 mi)) (p := ⟨r0, 5, none⟩) (.inr HG.out) (.int .i64 s))⟩
    rw [HV.out]; rfl
set_option maxRecDepth 100000 in
set_option maxHeartbeats 6400000 in
theorem dosText_any (t : Nat) (w : World) (ht : t < 4294967296) : Calls Tryd.prog 36 #[.int .u32 (t : Nat)] w fun e w' => e = .returned (.string (strOf (dosTextP t))) ∧ Upd [] w w' := by
  have HS := Lib.hid (fun w => dSplit_any t w ht)
  obtain ⟨b1, b2, b3, b4, b5, b6⟩ := parts_bd t
  unfold splitTV at HS
  rw [partsL_eq] at HS
  cases htb : timeB t with
  | false =>
    have HV : Hid (dosTextP t = []) := Lib.hid (by unfold dosTextP; rw [htb]; rfl)
    rw [htb] at HS
    clear htb b1 b2 b3 b4 b5 b6
    go_enter Tryd.func36, Tryd.ntmps36
    go_wp2_with fail
    refine (HS.out _).mono ?_
    rintro e w1 ⟨rfl, hu1⟩
    go_wp2
    go_ret
    exact ⟨by rw [HV.out]; rfl, hu1.alloc _⟩
  | true =>
    have HV : Hid (dosTextP t = clockP (yN t) (moN t) (dN t) (hN t) (miN t) (sN t)) := Lib.hid (by unfold dosTextP; rw [htb]; rfl)
    rw [htb, if_pos rfl] at HS
    unfold partsN at HS
    generalize yN t = y at *
    generalize moN t = mo at *
    generalize dN t = d at *
    generalize hN t = h at *
    generalize miN t = mi at *
    generalize sN t = s at *
    clear htb
    have e45 : ({ data := #[45] } : ByteArray).size = 1 := rfl
    have e32 : ({ data := #[32] } : ByteArray).size = 1 := rfl
    have e58 : ({ data := #[58] } : ByteArray).size = 1 := rfl
    have HSy := Lib.hid (fun w => digits_any y 4 w (by omega) (by omega))
    have zSy : (strOf (digP y 4)).size = 4 := by rw [size_strOf, digP_len]
    have HSm := Lib.hid (fun w => digits_any mo 2 w (by omega) (by omega))
    have zSm : (strOf (digP mo 2)).size = 2 := by rw [size_strOf, digP_len]
    have HSd := Lib.hid (fun w => digits_any d 2 w (by omega) (by omega))
    have zSd : (strOf (digP d 2)).size = 2 := by rw [size_strOf, digP_len]
    have HSh := Lib.hid (fun w => digits_any h 2 w (by omega) (by omega))
    have zSh : (strOf (digP h 2)).size = 2 := by rw [size_strOf, digP_len]
    have HSi := Lib.hid (fun w => digits_any mi 2 w (by omega) (by omega))
    have zSi : (strOf (digP mi 2)).size = 2 := by rw [size_strOf, digP_len]
    have HSs := Lib.hid (fun w => digits_any s 2 w (by omega) (by omega))
    have zSs : (strOf (digP s 2)).size = 2 := by rw [size_strOf, digP_len]
    have HJ : Hid (strOf (clockP y mo d h mi s) = ((((((((((strOf (digP y 4)) ++ ({ data := #[45] } : ByteArray)) ++ strOf (digP mo 2)) ++ ({ data := #[45] } : ByteArray)) ++ strOf (digP d 2)) ++ ({ data := #[32] } : ByteArray)) ++ strOf (digP h 2)) ++ ({ data := #[58] } : ByteArray)) ++ strOf (digP mi 2)) ++ ({ data := #[58] } : ByteArray)) ++ strOf (digP s 2)) := Lib.hid (by unfold clockP; simp only [strOf_cat]; rfl)
    generalize strOf (digP y 4) = Sy at *
    generalize strOf (digP mo 2) = Sm at *
    generalize strOf (digP d 2) = Sd at *
    generalize strOf (digP h 2) = Sh at *
    generalize strOf (digP mi 2) = Si at *
    generalize strOf (digP s 2) = Ss at *
    have a1 : ∀ W', (Op.stringOp .add (Sy) (({ data := #[45] } : ByteArray))).run Tryd.prog W' = .ok (.string ((Sy) ++ ({ data := #[45] } : ByteArray))) W' := fun W' => run_string_add_sum _ _ _ (by (try simp only [ByteArray.size_append, e45, e32, e58]); omega)
    have a2 : ∀ W', (Op.stringOp .add ((Sy) ++ ({ data := #[45] } : ByteArray)) (Sm)).run Tryd.prog W' = .ok (.string (((Sy) ++ ({ data := #[45] } : ByteArray)) ++ Sm)) W' := fun W' => run_string_add_sum _ _ _ (by (try simp only [ByteArray.size_append, e45, e32, e58]); omega)
    have a3 : ∀ W', (Op.stringOp .add (((Sy) ++ ({ data := #[45] } : ByteArray)) ++ Sm) (({ data := #[45] } : ByteArray))).run Tryd.prog W' = .ok (.string ((((Sy) ++ ({ data := #[45] } : ByteArray)) ++ Sm) ++ ({ data := #[45] } : ByteArray))) W' := fun W' => run_string_add_sum _ _ _ (by (try simp only [ByteArray.size_append, e45, e32, e58]); omega)
    have a4 : ∀ W', (Op.stringOp .add ((((Sy) ++ ({ data := #[45] } : ByteArray)) ++ Sm) ++ ({ data := #[45] } : ByteArray)) (Sd)).run Tryd.prog W' = .ok (.string (((((Sy) ++ ({ data := #[45] } : ByteArray)) ++ Sm) ++ ({ data := #[45] } : ByteArray)) ++ Sd)) W' := fun W' => run_string_add_sum _ _ _ (by (try simp only [ByteArray.size_append, e45, e32, e58]); omega)
    have a5 : ∀ W', (Op.stringOp .add (((((Sy) ++ ({ data := #[45] } : ByteArray)) ++ Sm) ++ ({ data := #[45] } : ByteArray)) ++ Sd) (({ data := #[32] } : ByteArray))).run Tryd.prog W' = .ok (.string ((((((Sy) ++ ({ data := #[45] } : ByteArray)) ++ Sm) ++ ({ data := #[45] } : ByteArray)) ++ Sd) ++ ({ data := #[32] } : ByteArray))) W' := fun W' => run_string_add_sum _ _ _ (by (try simp only [ByteArray.size_append, e45, e32, e58]); omega)
    have a6 : ∀ W', (Op.stringOp .add ((((((Sy) ++ ({ data := #[45] } : ByteArray)) ++ Sm) ++ ({ data := #[45] } : ByteArray)) ++ Sd) ++ ({ data := #[32] } : ByteArray)) (Sh)).run Tryd.prog W' = .ok (.string (((((((Sy) ++ ({ data := #[45] } : ByteArray)) ++ Sm) ++ ({ data := #[45] } : ByteArray)) ++ Sd) ++ ({ data := #[32] } : ByteArray)) ++ Sh)) W' := fun W' => run_string_add_sum _ _ _ (by (try simp only [ByteArray.size_append, e45, e32, e58]); omega)
    have a7 : ∀ W', (Op.stringOp .add (((((((Sy) ++ ({ data := #[45] } : ByteArray)) ++ Sm) ++ ({ data := #[45] } : ByteArray)) ++ Sd) ++ ({ data := #[32] } : ByteArray)) ++ Sh) (({ data := #[58] } : ByteArray))).run Tryd.prog W' = .ok (.string ((((((((Sy) ++ ({ data := #[45] } : ByteArray)) ++ Sm) ++ ({ data := #[45] } : ByteArray)) ++ Sd) ++ ({ data := #[32] } : ByteArray)) ++ Sh) ++ ({ data := #[58] } : ByteArray))) W' := fun W' => run_string_add_sum _ _ _ (by (try simp only [ByteArray.size_append, e45, e32, e58]); omega)
    have a8 : ∀ W', (Op.stringOp .add ((((((((Sy) ++ ({ data := #[45] } : ByteArray)) ++ Sm) ++ ({ data := #[45] } : ByteArray)) ++ Sd) ++ ({ data := #[32] } : ByteArray)) ++ Sh) ++ ({ data := #[58] } : ByteArray)) (Si)).run Tryd.prog W' = .ok (.string (((((((((Sy) ++ ({ data := #[45] } : ByteArray)) ++ Sm) ++ ({ data := #[45] } : ByteArray)) ++ Sd) ++ ({ data := #[32] } : ByteArray)) ++ Sh) ++ ({ data := #[58] } : ByteArray)) ++ Si)) W' := fun W' => run_string_add_sum _ _ _ (by (try simp only [ByteArray.size_append, e45, e32, e58]); omega)
    have a9 : ∀ W', (Op.stringOp .add (((((((((Sy) ++ ({ data := #[45] } : ByteArray)) ++ Sm) ++ ({ data := #[45] } : ByteArray)) ++ Sd) ++ ({ data := #[32] } : ByteArray)) ++ Sh) ++ ({ data := #[58] } : ByteArray)) ++ Si) (({ data := #[58] } : ByteArray))).run Tryd.prog W' = .ok (.string ((((((((((Sy) ++ ({ data := #[45] } : ByteArray)) ++ Sm) ++ ({ data := #[45] } : ByteArray)) ++ Sd) ++ ({ data := #[32] } : ByteArray)) ++ Sh) ++ ({ data := #[58] } : ByteArray)) ++ Si) ++ ({ data := #[58] } : ByteArray))) W' := fun W' => run_string_add_sum _ _ _ (by (try simp only [ByteArray.size_append, e45, e32, e58]); omega)
    have a10 : ∀ W', (Op.stringOp .add ((((((((((Sy) ++ ({ data := #[45] } : ByteArray)) ++ Sm) ++ ({ data := #[45] } : ByteArray)) ++ Sd) ++ ({ data := #[32] } : ByteArray)) ++ Sh) ++ ({ data := #[58] } : ByteArray)) ++ Si) ++ ({ data := #[58] } : ByteArray)) (Ss)).run Tryd.prog W' = .ok (.string (((((((((((Sy) ++ ({ data := #[45] } : ByteArray)) ++ Sm) ++ ({ data := #[45] } : ByteArray)) ++ Sd) ++ ({ data := #[32] } : ByteArray)) ++ Sh) ++ ({ data := #[58] } : ByteArray)) ++ Si) ++ ({ data := #[58] } : ByteArray)) ++ Ss)) W' := fun W' => run_string_add_sum _ _ _ (by (try simp only [ByteArray.size_append, e45, e32, e58]); omega)
    clear e45 e32 e58
    clear zSy zSm zSd zSh zSi zSs
    go_enter Tryd.func36, Tryd.ntmps36
    go_wp2_with fail
    refine (HS.out _).mono ?_
    rintro e w1 ⟨rfl, hu1⟩
    have HB1 := Lib.hid (Blk.new w1 [.int .i64 (y : Nat), .int .i64 (mo : Nat), .int .i64 (d : Nat), .int .i64 (h : Nat), .int .i64 (mi : Nat), .int .i64 (s : Nat)] 92)
    have HU1 := Lib.hid (hu1.alloc (.cells #[.int .i64 (y : Nat), .int .i64 (mo : Nat), .int .i64 (d : Nat), .int .i64 (h : Nat), .int .i64 (mi : Nat), .int .i64 (s : Nat)] 92))
    clear hu1
    go_wp2_with fail
    change Code.wp _ _ _ _ (w1.alloc (.cells #[.int .i64 (y : Nat), .int .i64 (mo : Nat), .int .i64 (d : Nat), .int .i64 (h : Nat), .int .i64 (mi : Nat), .int .i64 (s : Nat)] 92))
    generalize w1.heap.size = q0 at *
    generalize w1.alloc (.cells #[.int .i64 (y : Nat), .int .i64 (mo : Nat), .int .i64 (d : Nat), .int .i64 (h : Nat), .int .i64 (mi : Nat), .int .i64 (s : Nat)] 92) = w2 at *
    refine wp_region_held_drew (S := fun w' => Blk w' q0 [.int .i64 (y : Nat), .int .i64 (mo : Nat), .int .i64 (d : Nat), .int .i64 (h : Nat), .int .i64 (mi : Nat), .int .i64 (s : Nat)] 92 ∧ Upd [] w w') (by kernel_rfl) ⟨HB1.out, HU1.out.drew⟩ (fun hHeld => ?_)
    change wpAnyH _ _ _ _ _ 29 #[false, false, false, false, false, false, false, false, false, false, false, false, false, false, false, false, false, false, false, false, false, false, false, false, false, false, false, false, false] _ _
    refine heldTake (i := 0) (d := some 12) (v := ?v0_1) rfl rfl (by kernel_rfl) (by kernel_rfl) (by kernel_rfl) (fun _ _ _ h => h) (by rfl) ?hy0_1 (by assumption) ?r0_1
    case hy0_1 => (intro w hSw; (try dsimp only at hSw); go_simp; try with_reducible rfl)
    try simp only [Act.put, List.setIfInBounds_toArray, List.set_cons_zero, List.set_cons_succ]
    change wpAnyH _ _ _ _ _ 28 #[true, false, false, false, false, false, false, false, false, false, false, false, false, false, false, false, false, false, false, false, false, false, false, false, false, false, false, false, false] _ _
    refine heldTake (i := 1) (d := some 13) (v := ?v1_2) rfl rfl (by kernel_rfl) (by kernel_rfl) (by kernel_rfl) (fun _ _ _ h => h) (by rfl) ?hy1_2 (by assumption) ?r1_2
    case hy1_2 => (intro w5 hSw; have q0 := hSw.1.cell 0 rfl; have q1 := hSw.1.cell 1 rfl; have q2 := hSw.1.cell 2 rfl; have q3 := hSw.1.cell 3 rfl; have q4 := hSw.1.cell 4 rfl; have q5 := hSw.1.cell 5 rfl; go_simp; try with_reducible rfl)
    try simp only [Act.put, List.setIfInBounds_toArray, List.set_cons_zero, List.set_cons_succ]
    change wpAnyH _ _ _ _ _ 27 #[true, true, false, false, false, false, false, false, false, false, false, false, false, false, false, false, false, false, false, false, false, false, false, false, false, false, false, false, false] _ _
    refine heldTake (i := 4) (d := some 16) (v := ?v4_3) rfl rfl (by kernel_rfl) (by kernel_rfl) (by kernel_rfl) (fun _ _ _ h => h) (by rfl) ?hy4_3 (by assumption) ?r4_3
    case hy4_3 => (intro w hSw; (try dsimp only at hSw); go_simp; try with_reducible rfl)
    try simp only [Act.put, List.setIfInBounds_toArray, List.set_cons_zero, List.set_cons_succ]
    change wpAnyH _ _ _ _ _ 26 #[true, true, false, false, true, false, false, false, false, false, false, false, false, false, false, false, false, false, false, false, false, false, false, false, false, false, false, false, false] _ _
    refine heldTake (i := 5) (d := some 17) (v := ?v5_4) rfl rfl (by kernel_rfl) (by kernel_rfl) (by kernel_rfl) (fun _ _ _ h => h) (by rfl) ?hy5_4 (by assumption) ?r5_4
    case hy5_4 => (intro w5 hSw; have q0 := hSw.1.cell 0 rfl; have q1 := hSw.1.cell 1 rfl; have q2 := hSw.1.cell 2 rfl; have q3 := hSw.1.cell 3 rfl; have q4 := hSw.1.cell 4 rfl; have q5 := hSw.1.cell 5 rfl; go_simp; try with_reducible rfl)
    try simp only [Act.put, List.setIfInBounds_toArray, List.set_cons_zero, List.set_cons_succ]
    change wpAnyH _ _ _ _ _ 25 #[true, true, false, false, true, true, false, false, false, false, false, false, false, false, false, false, false, false, false, false, false, false, false, false, false, false, false, false, false] _ _
    refine heldTake (i := 9) (d := some 21) (v := ?v9_5) rfl rfl (by kernel_rfl) (by kernel_rfl) (by kernel_rfl) (fun _ _ _ h => h) (by rfl) ?hy9_5 (by assumption) ?r9_5
    case hy9_5 => (intro w hSw; (try dsimp only at hSw); go_simp; try with_reducible rfl)
    try simp only [Act.put, List.setIfInBounds_toArray, List.set_cons_zero, List.set_cons_succ]
    change wpAnyH _ _ _ _ _ 24 #[true, true, false, false, true, true, false, false, false, true, false, false, false, false, false, false, false, false, false, false, false, false, false, false, false, false, false, false, false] _ _
    refine heldTake (i := 10) (d := some 22) (v := ?v10_6) rfl rfl (by kernel_rfl) (by kernel_rfl) (by kernel_rfl) (fun _ _ _ h => h) (by rfl) ?hy10_6 (by assumption) ?r10_6
    case hy10_6 => (intro w5 hSw; have q0 := hSw.1.cell 0 rfl; have q1 := hSw.1.cell 1 rfl; have q2 := hSw.1.cell 2 rfl; have q3 := hSw.1.cell 3 rfl; have q4 := hSw.1.cell 4 rfl; have q5 := hSw.1.cell 5 rfl; go_simp; try with_reducible rfl)
    try simp only [Act.put, List.setIfInBounds_toArray, List.set_cons_zero, List.set_cons_succ]
    change wpAnyH _ _ _ _ _ 23 #[true, true, false, false, true, true, false, false, false, true, true, false, false, false, false, false, false, false, false, false, false, false, false, false, false, false, false, false, false] _ _
    refine heldTake (i := 14) (d := some 26) (v := ?v14_7) rfl rfl (by kernel_rfl) (by kernel_rfl) (by kernel_rfl) (fun _ _ _ h => h) (by rfl) ?hy14_7 (by assumption) ?r14_7
    case hy14_7 => (intro w hSw; (try dsimp only at hSw); go_simp; try with_reducible rfl)
    try simp only [Act.put, List.setIfInBounds_toArray, List.set_cons_zero, List.set_cons_succ]
    change wpAnyH _ _ _ _ _ 22 #[true, true, false, false, true, true, false, false, false, true, true, false, false, false, true, false, false, false, false, false, false, false, false, false, false, false, false, false, false] _ _
    refine heldTake (i := 15) (d := some 27) (v := ?v15_8) rfl rfl (by kernel_rfl) (by kernel_rfl) (by kernel_rfl) (fun _ _ _ h => h) (by rfl) ?hy15_8 (by assumption) ?r15_8
    case hy15_8 => (intro w5 hSw; have q0 := hSw.1.cell 0 rfl; have q1 := hSw.1.cell 1 rfl; have q2 := hSw.1.cell 2 rfl; have q3 := hSw.1.cell 3 rfl; have q4 := hSw.1.cell 4 rfl; have q5 := hSw.1.cell 5 rfl; go_simp; try with_reducible rfl)
    try simp only [Act.put, List.setIfInBounds_toArray, List.set_cons_zero, List.set_cons_succ]
    change wpAnyH _ _ _ _ _ 21 #[true, true, false, false, true, true, false, false, false, true, true, false, false, false, true, true, false, false, false, false, false, false, false, false, false, false, false, false, false] _ _
    refine heldTake (i := 19) (d := some 31) (v := ?v19_9) rfl rfl (by kernel_rfl) (by kernel_rfl) (by kernel_rfl) (fun _ _ _ h => h) (by rfl) ?hy19_9 (by assumption) ?r19_9
    case hy19_9 => (intro w hSw; (try dsimp only at hSw); go_simp; try with_reducible rfl)
    try simp only [Act.put, List.setIfInBounds_toArray, List.set_cons_zero, List.set_cons_succ]
    change wpAnyH _ _ _ _ _ 20 #[true, true, false, false, true, true, false, false, false, true, true, false, false, false, true, true, false, false, false, true, false, false, false, false, false, false, false, false, false] _ _
    refine heldTake (i := 20) (d := some 32) (v := ?v20_10) rfl rfl (by kernel_rfl) (by kernel_rfl) (by kernel_rfl) (fun _ _ _ h => h) (by rfl) ?hy20_10 (by assumption) ?r20_10
    case hy20_10 => (intro w5 hSw; have q0 := hSw.1.cell 0 rfl; have q1 := hSw.1.cell 1 rfl; have q2 := hSw.1.cell 2 rfl; have q3 := hSw.1.cell 3 rfl; have q4 := hSw.1.cell 4 rfl; have q5 := hSw.1.cell 5 rfl; go_simp; try with_reducible rfl)
    try simp only [Act.put, List.setIfInBounds_toArray, List.set_cons_zero, List.set_cons_succ]
    change wpAnyH _ _ _ _ _ 19 #[true, true, false, false, true, true, false, false, false, true, true, false, false, false, true, true, false, false, false, true, true, false, false, false, false, false, false, false, false] _ _
    refine heldTake (i := 24) (d := some 36) (v := ?v24_11) rfl rfl (by kernel_rfl) (by kernel_rfl) (by kernel_rfl) (fun _ _ _ h => h) (by rfl) ?hy24_11 (by assumption) ?r24_11
    case hy24_11 => (intro w hSw; (try dsimp only at hSw); go_simp; try with_reducible rfl)
    try simp only [Act.put, List.setIfInBounds_toArray, List.set_cons_zero, List.set_cons_succ]
    change wpAnyH _ _ _ _ _ 18 #[true, true, false, false, true, true, false, false, false, true, true, false, false, false, true, true, false, false, false, true, true, false, false, false, true, false, false, false, false] _ _
    refine heldTake (i := 25) (d := some 37) (v := ?v25_12) rfl rfl (by kernel_rfl) (by kernel_rfl) (by kernel_rfl) (fun _ _ _ h => h) (by rfl) ?hy25_12 (by assumption) ?r25_12
    case hy25_12 => (intro w5 hSw; have q0 := hSw.1.cell 0 rfl; have q1 := hSw.1.cell 1 rfl; have q2 := hSw.1.cell 2 rfl; have q3 := hSw.1.cell 3 rfl; have q4 := hSw.1.cell 4 rfl; have q5 := hSw.1.cell 5 rfl; go_simp; try with_reducible rfl)
    try simp only [Act.put, List.setIfInBounds_toArray, List.set_cons_zero, List.set_cons_succ]
    change wpAnyH _ _ _ _ _ 17 #[true, true, false, false, true, true, false, false, false, true, true, false, false, false, true, true, false, false, false, true, true, false, false, false, true, true, false, false, false] _ _
    refine wpAnyH_ready (rs := [2]) (by kernel_rfl) (by simp) ?_
    refine AllReadyH.cons rfl (fun K hK => ?_) AllReadyH.nil
    go_simp
    refine (HSy.out _).mono ?_
    rintro e z9 ⟨rfl, hz9⟩
    go_wp2
    refine hK.out _ _ ⟨hHeld.1.upd hz9 (by simp), hHeld.2.then hz9⟩ (fun hHeld => ?_)
    clear hK K
    try simp only [Act.put, List.setIfInBounds_toArray, List.set_cons_zero, List.set_cons_succ]
    change wpAnyH _ _ _ _ _ 16 #[true, true, true, false, true, true, false, false, false, true, true, false, false, false, true, true, false, false, false, true, true, false, false, false, true, true, false, false, false] _ _
    refine heldTake (i := 3) (d := some 15) (v := ?v3_14) rfl rfl (by kernel_rfl) (by kernel_rfl) (by kernel_rfl) (fun _ _ _ h => h) (by rfl) ?hy3_14 (by assumption) ?r3_14
    case hy3_14 => (intro w hSw; (try dsimp only at hSw); go_simp; try with_reducible rfl)
    try simp only [Act.put, List.setIfInBounds_toArray, List.set_cons_zero, List.set_cons_succ]
    change wpAnyH _ _ _ _ _ 15 #[true, true, true, true, true, true, false, false, false, true, true, false, false, false, true, true, false, false, false, true, true, false, false, false, true, true, false, false, false] _ _
    refine wpAnyH_ready (rs := [6]) (by kernel_rfl) (by simp) ?_
    refine AllReadyH.cons rfl (fun K hK => ?_) AllReadyH.nil
    go_simp
    refine (HSm.out _).mono ?_
    rintro e z9 ⟨rfl, hz9⟩
    go_wp2
    refine hK.out _ _ ⟨hHeld.1.upd hz9 (by simp), hHeld.2.then hz9⟩ (fun hHeld => ?_)
    clear hK K
    try simp only [Act.put, List.setIfInBounds_toArray, List.set_cons_zero, List.set_cons_succ]
    change wpAnyH _ _ _ _ _ 14 #[true, true, true, true, true, true, true, false, false, true, true, false, false, false, true, true, false, false, false, true, true, false, false, false, true, true, false, false, false] _ _
    refine heldTake (i := 7) (d := some 19) (v := ?v7_16) rfl rfl (by kernel_rfl) (by kernel_rfl) (by kernel_rfl) (fun _ _ _ h => h) (by rfl) ?hy7_16 (by assumption) ?r7_16
    case hy7_16 => (intro w hSw; (try dsimp only at hSw); go_simp; try with_reducible rfl)
    try simp only [Act.put, List.setIfInBounds_toArray, List.set_cons_zero, List.set_cons_succ]
    change wpAnyH _ _ _ _ _ 13 #[true, true, true, true, true, true, true, true, false, true, true, false, false, false, true, true, false, false, false, true, true, false, false, false, true, true, false, false, false] _ _
    refine heldTake (i := 8) (d := some 20) (v := ?v8_17) rfl rfl (by kernel_rfl) (by kernel_rfl) (by kernel_rfl) (fun _ _ _ h => h) (by rfl) ?hy8_17 (by assumption) ?r8_17
    case hy8_17 => (intro w hSw; (try dsimp only at hSw); go_simp; try with_reducible rfl)
    try simp only [Act.put, List.setIfInBounds_toArray, List.set_cons_zero, List.set_cons_succ]
    change wpAnyH _ _ _ _ _ 12 #[true, true, true, true, true, true, true, true, true, true, true, false, false, false, true, true, false, false, false, true, true, false, false, false, true, true, false, false, false] _ _
    refine wpAnyH_ready (rs := [11]) (by kernel_rfl) (by simp) ?_
    refine AllReadyH.cons rfl (fun K hK => ?_) AllReadyH.nil
    go_simp
    refine (HSd.out _).mono ?_
    rintro e z9 ⟨rfl, hz9⟩
    go_wp2
    refine hK.out _ _ ⟨hHeld.1.upd hz9 (by simp), hHeld.2.then hz9⟩ (fun hHeld => ?_)
    clear hK K
    try simp only [Act.put, List.setIfInBounds_toArray, List.set_cons_zero, List.set_cons_succ]
    change wpAnyH _ _ _ _ _ 11 #[true, true, true, true, true, true, true, true, true, true, true, true, false, false, true, true, false, false, false, true, true, false, false, false, true, true, false, false, false] _ _
    refine heldTake (i := 12) (d := some 24) (v := ?v12_19) rfl rfl (by kernel_rfl) (by kernel_rfl) (by kernel_rfl) (fun _ _ _ h => h) (by rfl) ?hy12_19 (by assumption) ?r12_19
    case hy12_19 => (intro w hSw; (try dsimp only at hSw); go_simp; try with_reducible rfl)
    try simp only [Act.put, List.setIfInBounds_toArray, List.set_cons_zero, List.set_cons_succ]
    change wpAnyH _ _ _ _ _ 10 #[true, true, true, true, true, true, true, true, true, true, true, true, true, false, true, true, false, false, false, true, true, false, false, false, true, true, false, false, false] _ _
    refine heldTake (i := 13) (d := some 25) (v := ?v13_20) rfl rfl (by kernel_rfl) (by kernel_rfl) (by kernel_rfl) (fun _ _ _ h => h) (by rfl) ?hy13_20 (by assumption) ?r13_20
    case hy13_20 => (intro w hSw; (try dsimp only at hSw); go_simp; try with_reducible rfl)
    try simp only [Act.put, List.setIfInBounds_toArray, List.set_cons_zero, List.set_cons_succ]
    change wpAnyH _ _ _ _ _ 9 #[true, true, true, true, true, true, true, true, true, true, true, true, true, true, true, true, false, false, false, true, true, false, false, false, true, true, false, false, false] _ _
    refine wpAnyH_ready (rs := [16]) (by kernel_rfl) (by simp) ?_
    refine AllReadyH.cons rfl (fun K hK => ?_) AllReadyH.nil
    go_simp
    refine (HSh.out _).mono ?_
    rintro e z9 ⟨rfl, hz9⟩
    go_wp2
    refine hK.out _ _ ⟨hHeld.1.upd hz9 (by simp), hHeld.2.then hz9⟩ (fun hHeld => ?_)
    clear hK K
    try simp only [Act.put, List.setIfInBounds_toArray, List.set_cons_zero, List.set_cons_succ]
    change wpAnyH _ _ _ _ _ 8 #[true, true, true, true, true, true, true, true, true, true, true, true, true, true, true, true, true, false, false, true, true, false, false, false, true, true, false, false, false] _ _
    refine heldTake (i := 17) (d := some 29) (v := ?v17_22) rfl rfl (by kernel_rfl) (by kernel_rfl) (by kernel_rfl) (fun _ _ _ h => h) (by rfl) ?hy17_22 (by assumption) ?r17_22
    case hy17_22 => (intro w hSw; (try dsimp only at hSw); go_simp; try with_reducible rfl)
    try simp only [Act.put, List.setIfInBounds_toArray, List.set_cons_zero, List.set_cons_succ]
    change wpAnyH _ _ _ _ _ 7 #[true, true, true, true, true, true, true, true, true, true, true, true, true, true, true, true, true, true, false, true, true, false, false, false, true, true, false, false, false] _ _
    refine heldTake (i := 18) (d := some 30) (v := ?v18_23) rfl rfl (by kernel_rfl) (by kernel_rfl) (by kernel_rfl) (fun _ _ _ h => h) (by rfl) ?hy18_23 (by assumption) ?r18_23
    case hy18_23 => (intro w hSw; (try dsimp only at hSw); go_simp; try with_reducible rfl)
    try simp only [Act.put, List.setIfInBounds_toArray, List.set_cons_zero, List.set_cons_succ]
    change wpAnyH _ _ _ _ _ 6 #[true, true, true, true, true, true, true, true, true, true, true, true, true, true, true, true, true, true, true, true, true, false, false, false, true, true, false, false, false] _ _
    refine wpAnyH_ready (rs := [21]) (by kernel_rfl) (by simp) ?_
    refine AllReadyH.cons rfl (fun K hK => ?_) AllReadyH.nil
    go_simp
    refine (HSi.out _).mono ?_
    rintro e z9 ⟨rfl, hz9⟩
    go_wp2
    refine hK.out _ _ ⟨hHeld.1.upd hz9 (by simp), hHeld.2.then hz9⟩ (fun hHeld => ?_)
    clear hK K
    try simp only [Act.put, List.setIfInBounds_toArray, List.set_cons_zero, List.set_cons_succ]
    change wpAnyH _ _ _ _ _ 5 #[true, true, true, true, true, true, true, true, true, true, true, true, true, true, true, true, true, true, true, true, true, true, false, false, true, true, false, false, false] _ _
    refine heldTake (i := 22) (d := some 34) (v := ?v22_25) rfl rfl (by kernel_rfl) (by kernel_rfl) (by kernel_rfl) (fun _ _ _ h => h) (by rfl) ?hy22_25 (by assumption) ?r22_25
    case hy22_25 => (intro w hSw; (try dsimp only at hSw); go_simp; try with_reducible rfl)
    try simp only [Act.put, List.setIfInBounds_toArray, List.set_cons_zero, List.set_cons_succ]
    change wpAnyH _ _ _ _ _ 4 #[true, true, true, true, true, true, true, true, true, true, true, true, true, true, true, true, true, true, true, true, true, true, true, false, true, true, false, false, false] _ _
    refine heldTake (i := 23) (d := some 35) (v := ?v23_26) rfl rfl (by kernel_rfl) (by kernel_rfl) (by kernel_rfl) (fun _ _ _ h => h) (by rfl) ?hy23_26 (by assumption) ?r23_26
    case hy23_26 => (intro w hSw; (try dsimp only at hSw); go_simp; try with_reducible rfl)
    try simp only [Act.put, List.setIfInBounds_toArray, List.set_cons_zero, List.set_cons_succ]
    change wpAnyH _ _ _ _ _ 3 #[true, true, true, true, true, true, true, true, true, true, true, true, true, true, true, true, true, true, true, true, true, true, true, true, true, true, false, false, false] _ _
    refine wpAnyH_ready (rs := [26]) (by kernel_rfl) (by simp) ?_
    refine AllReadyH.cons rfl (fun K hK => ?_) AllReadyH.nil
    go_simp
    refine (HSs.out _).mono ?_
    rintro e z9 ⟨rfl, hz9⟩
    go_wp2
    refine hK.out _ _ ⟨hHeld.1.upd hz9 (by simp), hHeld.2.then hz9⟩ (fun hHeld => ?_)
    clear hK K
    try simp only [Act.put, List.setIfInBounds_toArray, List.set_cons_zero, List.set_cons_succ]
    change wpAnyH _ _ _ _ _ 2 #[true, true, true, true, true, true, true, true, true, true, true, true, true, true, true, true, true, true, true, true, true, true, true, true, true, true, true, false, false] _ _
    refine heldTake (i := 27) (d := some 39) (v := ?v27_28) rfl rfl (by kernel_rfl) (by kernel_rfl) (by kernel_rfl) (fun _ _ _ h => h) (by rfl) ?hy27_28 (by assumption) ?r27_28
    case hy27_28 => (intro w hSw; (try dsimp only at hSw); go_simp; try with_reducible rfl)
    try simp only [Act.put, List.setIfInBounds_toArray, List.set_cons_zero, List.set_cons_succ]
    change wpAnyH _ _ _ _ _ 1 #[true, true, true, true, true, true, true, true, true, true, true, true, true, true, true, true, true, true, true, true, true, true, true, true, true, true, true, true, false] _ _
    refine heldTake (i := 28) (d := some 2) (v := ?v28_29) rfl rfl (by kernel_rfl) (by kernel_rfl) (by kernel_rfl) (fun _ _ _ h => h) (by rfl) ?hy28_29 (by assumption) ?r28_29
    case hy28_29 => (intro w hSw; (try dsimp only at hSw); go_simp; try with_reducible rfl)
    try simp only [Act.put, List.setIfInBounds_toArray, List.set_cons_zero, List.set_cons_succ]
    change wpAnyH _ _ _ _ _ 0 #[true, true, true, true, true, true, true, true, true, true, true, true, true, true, true, true, true, true, true, true, true, true, true, true, true, true, true, true, true] _ _
    refine wpAnyH_done (by kernel_rfl) ?_ 0
    go_wp2_with fail
    go_ret
    exact ⟨by rw [HV.out, HJ.out]; rfl, hHeld.2⟩
end Go.Proofs.YtigjingielnaoaaDoor

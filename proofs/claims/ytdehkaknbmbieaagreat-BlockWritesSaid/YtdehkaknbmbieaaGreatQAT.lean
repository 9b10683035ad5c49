/- Package symbol: plain, and the walks of its scales. -/
import Derived.Lib.MinMax
import Derived.Test.YtdehkaknbmbieaaGreatQAB
import Derived.Test.YtdehkaknbmbieaaGreatQAP
import Derived.Test.YtdehkaknbmbieaaGreatQAS
namespace Go.Proofs.YtdehkaknbmbieaaGreat
set_option linter.unusedVariables false
set_option linter.unusedSimpArgs false
set_option linter.unusedSectionVars false
open Go.RowKit
set_option linter.unusedVariables false

/-- How many bits a code of a scale has; -1: it is none. -/
def sbitsI (G F M : Nat) (k : Int) : Int := if k < 0 ∨ (M : Int) ≤ k then -1 else if k < (F : Int) then 0 else (k - F) / G + 1
def sbeg (B G F M : Nat) : Nat → Nat
  | 0 => B
  | k + 1 => sbeg B G F M k + 2 ^ (sbitsI G F M (k : Nat)).toNat
def scaleV (B G F M : Nat) : Value := .agg #[.int .i64 (B : Nat), .int .i64 (G : Nat), .int .i64 (F : Nat), .int .i64 (M : Nat)]

set_option maxHeartbeats 1600000 in
theorem scale_bits (B G F M : Nat) (k : Int) (w : World) (hG : 1 ≤ G) (hG2 : G ≤ 100) (hF : F ≤ 100) (hM : M ≤ 100) :
    Calls Tryz.prog 100 #[scaleV B G F M, .int .i64 k] w fun e w' => e = .returned (.int .i64 (sbitsI G F M k)) ∧ Upd [] w w' := by
  unfold scaleV
  have hU := (Upd.refl [] w).alloc (.cells #[.int .i64 (B : Nat), .int .i64 (G : Nat), .int .i64 (F : Nat), .int .i64 (M : Nat)] 128)
  by_cases h0 : k < 0
  · have hs := Lib.hid (show sbitsI G F M k = -1 by unfold sbitsI; rw [if_pos (.inl h0)])
    have h0f : decide (k < 0) = true := decide_eq_true h0
    go_enter Tryz.func100, Tryz.ntmps100
    go_wp2
    go_returns
    exact ⟨by rw [hs.out]; rfl, hU⟩
  · have h0f : decide (k < 0) = false := decide_eq_false h0
    have h00 : 0 ≤ k := by omega
    by_cases hm : (M : Int) ≤ k
    · have hs := Lib.hid (show sbitsI G F M k = -1 by unfold sbitsI; rw [if_pos (.inr hm)])
      have hmf : decide ((M : Int) ≤ k) = true := decide_eq_true hm
      go_enter Tryz.func100, Tryz.ntmps100
      go_wp2
      go_returns
      exact ⟨by rw [hs.out]; rfl, hU⟩
    · have hmf : decide ((M : Int) ≤ k) = false := decide_eq_false hm
      have hkM : k < (M : Int) := by omega
      by_cases hf : k < (F : Int)
      · have hs := Lib.hid (show sbitsI G F M k = 0 by unfold sbitsI; rw [if_neg (by omega), if_pos hf])
        go_enter Tryz.func100, Tryz.ntmps100
        go_wp2
        go_returns
        exact ⟨by rw [hs.out]; rfl, hU⟩
      · have hs := Lib.hid (show sbitsI G F M k = (k - F) / G + 1 by unfold sbitsI; rw [if_neg (by omega), if_neg hf])
        have hGz : ¬ (G : Int) = 0 := by omega
        have hkF : (F : Int) ≤ k := by omega
        have hd : (k - (F : Int)).tdiv (G : Int) = (k - F) / G := Int.tdiv_eq_ediv_of_nonneg (by omega)
        have hq1 : 0 ≤ (k - (F : Int)) / G := Int.ediv_nonneg (by omega) (by omega)
        have hq2 : (k - (F : Int)) / G ≤ 100 := Int.le_trans (Int.ediv_le_self _ (by omega)) (by omega)
        clear hf h0 hm
        go_enter Tryz.func100, Tryz.ntmps100
        go_wp2
        go_returns
        exact ⟨by rw [hs.out]; rfl, hU⟩
theorem sbitsI_nn (G F M k : Nat) (h : k < M) : 0 ≤ sbitsI G F M (k : Nat) := by
  unfold sbitsI
  rw [if_neg (by omega)]
  split
  · omega
  · have : 0 ≤ ((k : Int) - F) / G := Int.ediv_nonneg (by omega) (by omega)
    omega
theorem sbeg_le (B G F M : Nat) (hb : ∀ j : Nat, j < M → sbitsI G F M (j : Nat) ≤ 13) (k : Nat) (hk : k ≤ M) : sbeg B G F M k ≤ B + k * 8192 := by
  induction k with
  | zero => simp [sbeg]
  | succ k ih =>
    have h1 := hb k (by omega)
    have h2 : 2 ^ (sbitsI G F M (k : Nat)).toNat ≤ 2 ^ 13 := Nat.pow_le_pow_right (by omega) (by omega)
    have := ih (by omega)
    simp only [sbeg]; omega

set_option maxRecDepth 100000 in
set_option maxHeartbeats 1600000 in
theorem scale_begin (B G F M k : Nat) (w : World) (hG : 1 ≤ G) (hG2 : G ≤ 100) (hF : F ≤ 100) (hM : M ≤ 100) (hB : B ≤ 100) (hb : ∀ j : Nat, j < M → sbitsI G F M (j : Nat) ≤ 13) (hk : k ≤ M) :
    Calls Tryz.prog 121 #[scaleV B G F M, .int .i64 (k : Nat)] w fun e w' => e = .returned (.int .i64 (sbeg B G F M k : Nat)) ∧ Upd [] w w' := by
  have HB := Lib.hid (fun j w' => scale_bits B G F M j w' hG hG2 hF hM)
  have HBD := Lib.hid hb
  unfold scaleV
  have hU := (Upd.refl [] w).alloc (.cells #[.int .i64 (B : Nat), .int .i64 (G : Nat), .int .i64 (F : Nat), .int .i64 (M : Nat)] 128)
  have hP := Blk.new w [.int .i64 (B : Nat), .int .i64 (G : Nat), .int .i64 (F : Nat), .int .i64 (M : Nat)] 128
  unfold scaleV at HB
  clear hb
  go_enter Tryz.func121, Tryz.ntmps121
  go_wp2
  go_loopg [5, 10] k (fun g s5 s10 wr => ∃ i, i ≤ k ∧ g = k - i ∧ s10 = .int .i64 (i : Nat) ∧ s5 = .int .i64 (sbeg B G F M i : Nat) ∧ Upd [] w wr ∧ Blk wr w.heap.size [.int .i64 (B : Nat), .int .i64 (G : Nat), .int .i64 (F : Nat), .int .i64 (M : Nat)] 128)
  case atStart => exact ⟨0, by omega, rfl, rfl, rfl, hU, hP⟩
  case round =>
    obtain ⟨i, hi, rfl, rfl, rfl, hUr, hPr⟩ := hrel
    have hle := sbeg_le B G F M HBD.out i (by omega)
    have hle2 : i * 8192 ≤ 100 * 8192 := Nat.mul_le_mul_right _ (by omega)
    clear hU hP
    by_cases hc : i < k
    · have hcz : (i : Int) < (k : Int) := by omega
      have hbi := HB.out (i : Nat)
      have hnn := sbitsI_nn G F M i (by omega)
      have hb13 := HBD.out i (by omega)
      have hst := Lib.hid (show sbeg B G F M (i + 1) = sbeg B G F M i + 2 ^ (sbitsI G F M (i : Nat)).toNat by rfl)
      generalize sbeg B G F M i = q at *
      obtain ⟨t, ht⟩ : ∃ t : Nat, sbitsI G F M (i : Nat) = (t : Int) := ⟨(sbitsI G F M (i : Nat)).toNat, by omega⟩
      rw [ht] at hbi hst hb13 hnn
      rw [Int.toNat_natCast] at hst
      have ht13 : t ≤ 13 := by omega
      have hp : 2 ^ t ≤ 2 ^ 13 := Nat.pow_le_pow_right (by omega) ht13
      have HBI := Lib.hid hbi
      clear hbi ht hb13
      go_wp2_with (refine wpList_loadBlk rfl 128 _ rfl w.heap.size rfl 128 _ hPr _ Tryz.underlying128 rfl (by kernel_rfl) ?_)
      refine (HBI.out wr).mono ?_
      rintro e w1 ⟨rfl, hU1⟩
      go_wp2
      go_roundg (k - (i + 1))
      case measure => omega
      case rel =>
        refine ⟨i + 1, by omega, rfl, by go_num, ?_, hUr.then hU1, hPr.upd hU1 (by simp)⟩
        have e : (2 : Int) ^ t = ((2 ^ t : Nat) : Int) := by simp
        have e3 : wrap64 ((2 ^ t : Nat) : Int) = ((2 ^ t : Nat) : Int) := by
          clear e
          generalize 2 ^ t = p at *
          exact IntWalk.wrap64_in _ (by omega)
        rw [hst.out, e, e3, ← Int.natCast_add]
        clear e e3
        generalize 2 ^ t = p at *
        rw [IntWalk.wrap64_in _ (by omega)]
    · have hik : i = k := by omega
      have hcz : ¬ (i : Int) < (k : Int) := by omega
      subst hik
      generalize hq : sbeg B G F M i = q at *
      have HQ := Lib.hid hq
      clear hq
      go_wp2
      go_returns
      exact ⟨by rw [HQ.out]; rfl, hUr⟩

/-- The number of a code and of what is in its bits. -/
def numS (B G F M : Nat) (k more : Int) : Option Nat := if sbitsI G F M k = -1 ∨ more < 0 ∨ (2 : Int) ^ (sbitsI G F M k).toNat ≤ more then none else some (sbeg B G F M k.toNat + more.toNat)
def optVal (o : Option Nat) : Value := .tuple #[.int .i64 (o.getD 0 : Nat), .bool o.isSome]

end Go.Proofs.YtdehkaknbmbieaaGreat
namespace Go.Proofs.YtdehkaknbmbieaaGreat
set_option linter.unusedVariables false
set_option linter.unusedSimpArgs false
set_option linter.unusedSectionVars false
open Go.RowKit
set_option linter.unusedVariables false

theorem infoScale : (Tryz.prog.info? 128).map (·.size) = some 4 := by kernel_rfl
theorem longs_any (w : World) : Calls Tryz.prog 85 #[] w fun e w' => e = .returned (scaleV 3 4 8 28) ∧ Upd [] w w' := by
  have hB := Blk.new w [.int .i64 0, .int .i64 0, .int .i64 0, .int .i64 0] 128
  go_enter Tryz.func85, Tryz.ntmps85
  go_wp2_with (refine wpList_storeBlk rfl 128 _ _ rfl w.heap.size rfl [.int .i64 3, .int .i64 4, .int .i64 8, .int .i64 28] rfl 128 _ hB (by kernel_rfl) rfl (by simp [Value.oneCell']) ?_; intro w2 hB3 hU2)
  exact bodyPost_ret (results_cell_row rfl _ _ _ _ _ _ _ rfl hB3 Tryz.underlying128 rfl (by rw [infoScale]; rfl)) rfl ⟨rfl, ((Upd.refl [] w).alloc _).trans hU2 (fun k hk => by simp at hk; right; omega)⟩
theorem distances_any (w : World) : Calls Tryz.prog 87 #[] w fun e w' => e = .returned (scaleV 1 2 4 30) ∧ Upd [] w w' := by
  have hB := Blk.new w [.int .i64 0, .int .i64 0, .int .i64 0, .int .i64 0] 128
  go_enter Tryz.func87, Tryz.ntmps87
  go_wp2_with (refine wpList_storeBlk rfl 128 _ _ rfl w.heap.size rfl [.int .i64 1, .int .i64 2, .int .i64 4, .int .i64 30] rfl 128 _ hB (by kernel_rfl) rfl (by simp [Value.oneCell']) ?_; intro w2 hB3 hU2)
  exact bodyPost_ret (results_cell_row rfl _ _ _ _ _ _ _ rfl hB3 Tryz.underlying128 rfl (by rw [infoScale]; rfl)) rfl ⟨rfl, ((Upd.refl [] w).alloc _).trans hU2 (fun k hk => by simp at hk; right; omega)⟩

/-- How many bits a code of a length has; of a distance. -/
def longB (n : Int) : Int := if n = 285 then 0 else if n < 257 then -1 else sbitsI 4 8 28 (n - 257)
def backB (n : Int) : Int := sbitsI 2 4 30 n
theorem longS13 : ∀ j : Nat, j < 28 → sbitsI 4 8 28 (j : Nat) ≤ 13 := by
  have : ∀ j : Fin 28, sbitsI 4 8 28 (j.val : Nat) ≤ 13 := by decide
  exact fun j h => this ⟨j, h⟩
theorem backS13 : ∀ j : Nat, j < 30 → sbitsI 2 4 30 (j : Nat) ≤ 13 := by
  have : ∀ j : Fin 30, sbitsI 2 4 30 (j.val : Nat) ≤ 13 := by decide
  exact fun j h => this ⟨j, h⟩

theorem backBits_any (n : Int) (w : World) : Calls Tryz.prog 72 #[.int .i64 n] w fun e w' => e = .returned (.int .i64 (backB n)) ∧ Upd [] w w' := by
  go_enter Tryz.func72, Tryz.ntmps72
  go_wp2_with fail
  refine (distances_any w).mono ?_
  rintro e w1 ⟨rfl, hU1⟩
  have HB := Lib.hid (scale_bits 1 2 4 30 n w1 (by decide) (by decide) (by decide) (by decide))
  go_wp2_with fail
  refine HB.out.mono ?_
  rintro e w2 ⟨rfl, hU2⟩
  go_wp2
  go_returns
  exact ⟨rfl, hU1.then hU2⟩
theorem longBits_any (n : Nat) (w : World) (h9 : n ≤ 100000) : Calls Tryz.prog 71 #[.int .i64 (n : Nat)] w fun e w' => e = .returned (.int .i64 (longB n)) ∧ Upd [] w w' := by
  by_cases h1 : n = 285
  · subst h1
    go_enter Tryz.func71, Tryz.ntmps71
    go_wp2
    go_returns
    exact ⟨rfl, .refl _ _⟩
  · have h1f : ((n : Int) == 285) = false := by simp; omega
    by_cases h2 : n < 257
    · have h2f : decide ((n : Int) < 257) = true := decide_eq_true (by omega)
      have hl := Lib.hid (show longB (n : Int) = -1 by unfold longB; rw [if_neg (by omega), if_pos (by omega)])
      go_enter Tryz.func71, Tryz.ntmps71
      go_wp2
      go_returns
      exact ⟨by rw [hl.out]; rfl, .refl _ _⟩
    · have h2f : decide ((n : Int) < 257) = false := decide_eq_false (by omega)
      have hl := Lib.hid (show longB (n : Int) = sbitsI 4 8 28 ((n : Int) - 257) by unfold longB; rw [if_neg (by omega), if_neg (by omega)])
      go_enter Tryz.func71, Tryz.ntmps71
      go_wp2_with fail
      refine (longs_any w).mono ?_
      rintro e w1 ⟨rfl, hU1⟩
      have HB := Lib.hid (scale_bits 3 4 8 28 ((n : Int) - 257) w1 (by decide) (by decide) (by decide) (by decide))
      go_wp2_with fail
      refine HB.out.mono ?_
      rintro e w2 ⟨rfl, hU2⟩
      go_wp2
      go_returns
      exact ⟨by rw [hl.out]; rfl, hU1.then hU2⟩

/-- The length of a code and of what is in its bits. -/
def longN (n more : Int) : Option Nat := if n = 285 then (if more = 0 then some 258 else none) else if n < 257 then none else
  match numS 3 4 8 28 (n - 257) more with
  | some v => if 258 ≤ v then none else some v
  | none => none
end Go.Proofs.YtdehkaknbmbieaaGreat
namespace Go.Proofs.YtdehkaknbmbieaaGreat
set_option linter.unusedVariables false
set_option linter.unusedSimpArgs false
set_option linter.unusedSectionVars false
open Go.RowKit
set_option linter.unusedVariables false

/-- A state at block x: its Reader at b, what it has made. -/
structure StAt (w : World) (x b : Nat) (v : Value) (s : ByteArray) (a : Nat) (out : List Nat) (most : Nat) : Prop where
  blk : Blk w x [.pointer (some ⟨b, 0, none⟩), v, .int .i64 (most : Nat)] 84
  row : Row w 5 1 v out.length (u8s out)
  rd : RdAt w b 123 s a false
  vx : v.ownBlock ≠ some x
  vb : v.ownBlock ≠ some b
  xb : x ≠ b
  le : out.length ≤ most
  cap : most ≤ 65000
  lt : ∀ y ∈ out, y < 256

end Go.Proofs.YtdehkaknbmbieaaGreat
namespace Go.Proofs.YtdehkaknbmbieaaGreat
set_option linter.unusedVariables false
set_option linter.unusedSimpArgs false
set_option linter.unusedSectionVars false
open Go.RowKit
set_option linter.unusedVariables false

def qcopyN (far : Nat) : Nat → List Nat → List Nat
  | 0, out => out
  | n + 1, out => qcopyN far n (out ++ [out.getD (out.length - far) 0])
theorem length_copyN (far n : Nat) (out : List Nat) : (qcopyN far n out).length = out.length + n := by
  induction n generalizing out with
  | zero => rfl
  | succ n ih => simp only [qcopyN, ih]; simp; omega
theorem copyN_snoc (far n : Nat) (out : List Nat) : qcopyN far (n + 1) out = qcopyN far n out ++ [(qcopyN far n out).getD ((qcopyN far n out).length - far) 0] := by
  induction n generalizing out with
  | zero => rfl
  | succ n ih => rw [qcopyN, ih]; rfl
/-- The end of a copy: how far, how long. -/
def copyEnd (most long : Nat) (out : List Nat) (code a : Nat) (r : Nat × Nat) : Except Nat (List Nat × Nat) :=
  match numS 1 2 4 30 (code : Nat) (r.1 : Nat) with
  | none => .error 2
  | some far => if far ≤ out.length then (if out.length + long ≤ most then .ok (qcopyN far long out, r.2) else .error 4) else .error 2
def copyBack (s : ByteArray) (most long : Nat) (out : List Nat) (r : Nat × Nat) : Except Nat (List Nat × Nat) :=
  if backB (r.1 : Nat) < 0 then .error 2 else takeP s r.2 (backB (r.1 : Nat)).toNat >>= copyEnd most long out r.1 r.2
def copyLong (l2 : List Int) (s : ByteArray) (most sym : Nat) (out : List Nat) (r : Nat × Nat) : Except Nat (List Nat × Nat) :=
  match longN (sym : Nat) (r.1 : Nat) with
  | none => .error 2
  | some long => nextP l2 s r.2 >>= copyBack s most long out
def copyP (l2 : List Int) (s : ByteArray) (most sym : Nat) (out : List Nat) (a : Nat) : Except Nat (List Nat × Nat) :=
  if longB (sym : Nat) < 0 then .error 2 else takeP s a (longB (sym : Nat)).toNat >>= copyLong l2 s most sym out

/-- Behind a step that makes bytes: x's and b's blocks, and v's row, may have turned. -/
def stFp (x b : Nat) (v : Value) : List Nat := x :: b :: v.ownBlock.toList
theorem longN_le {n more : Int} {v : Nat} (h : longN n more = some v) : v ≤ 258 := by
  unfold longN at h
  split at h
  · split at h
    · cases h; omega
    · cases h
  · split at h
    · cases h
    · split at h
      · split at h
        · cases h
        · cases h; omega
      · cases h
theorem sbeg_ge (B G F M k : Nat) : B ≤ sbeg B G F M k := by
  induction k with
  | zero => exact Nat.le_refl _
  | succ k ih => exact Nat.le_trans ih (Nat.le_add_right _ _)
theorem numS_ge {B G F M : Nat} {k more : Int} {v : Nat} (h : numS B G F M k more = some v) : B ≤ v := by
  unfold numS at h
  split at h
  · cases h
  · cases h; have := sbeg_ge B G F M k.toNat; omega
theorem StAt.read {w w' : World} {x b : Nat} {v : Value} {s : ByteArray} {a a' : Nat} {out : List Nat} {most : Nat} (h : StAt w x b v s a out most) (hU : Upd [b] w w') (hR : RdAt w' b 123 s a' false) : StAt w' x b v s a' out most :=
  { h with blk := h.blk.upd hU (by have := h.xb; simpa using this), row := Row.upd h.row hU (fun k hk hm => by simp at hm; exact h.vb (by rw [hk, hm])), rd := hR }
theorem StAt.pure {w w' : World} {x b : Nat} {v : Value} {s : ByteArray} {a : Nat} {out : List Nat} {most : Nat} (h : StAt w x b v s a out most) (hU : Upd [] w w') : StAt w' x b v s a out most :=
  { h with blk := h.blk.upd hU (by simp), row := Row.upd h.row hU (by simp), rd := h.rd.upd hU (by simp) }
theorem upd_st {w w' : World} {x b : Nat} {v : Value} (h : Upd [b] w w') : Upd (stFp x b v) w w' := h.mono (fun k hk => .inl (by simp at hk; simp [stFp, hk]))
theorem StAt.push {wr wm w9 : World} {x b : Nat} {v v9 : Value} {s : ByteArray} {a : Nat} {out : List Nat} {most : Nat} (h : StAt wr x b v s a out most) (hm : Upd [] wr wm) {n : Nat} (ys : List Nat) (hR : Row w9 5 1 v9 n (u8s out ++ u8s ys)) (hU : Upd v.ownBlock.toList wm w9) (hT : Later wm v v9) (hle : out.length + ys.length ≤ most) (hlt : ∀ y ∈ ys, y < 256) :
    StAt (w9.setCell ⟨x, 1, none⟩ v9) x b v9 s a (out ++ ys) most ∧ Upd (stFp x b v) wr (w9.setCell ⟨x, 1, none⟩ v9) ∧ Later wr v v9 := by
  have hT' : Later wr v v9 := hT.imp id fun ⟨g, h1, h2⟩ => ⟨g, h1, Nat.le_trans hm.size h2⟩
  have hUw : Upd (stFp x b v) wr w9 := (hm.mono (by simp)).then (hU.mono fun k hk => .inl (by simp [stFp, hk]))
  have hx : x ∉ v.ownBlock.toList := by have := h.vx; simpa [eq_comm] using this
  have hb : b ∉ v.ownBlock.toList := by have := h.vb; simpa [eq_comm] using this
  have hxlt := h.blk.lt
  have hblt := h.rd.1.lt
  have hvx := hT'.ne hxlt h.vx
  have hvb := hT'.ne hblt h.vb
  have hn : n = (out ++ ys).length := by have := hR.len; simp [length_u8s] at this ⊢; omega
  have hB9 := (h.blk.upd hm (by simp)).upd hU hx
  have hR' := (h.rd.upd hm (by simp)).upd hU hb
  refine ⟨⟨hB9.set 1 v9, ?_, hR'.upd ((Upd.refl [x] w9).setCell (.inl (by simp)) v9) (by have := h.xb; simp; omega), hvx, hvb, h.xb, by simpa using hle, h.cap, ?_⟩, hUw.setCell (.inl (by simp [stFp])) v9, hT'⟩
  · rw [u8s_append, ← hn]; exact hR.setFar v9 hvx
  · intro y hy
    rcases List.mem_append.1 hy with hy | hy
    · exact h.lt y hy
    · exact hlt y hy
end Go.Proofs.YtdehkaknbmbieaaGreat
namespace Go.Proofs.YtdehkaknbmbieaaGreat
set_option linter.unusedVariables false
set_option linter.unusedSimpArgs false
set_option linter.unusedSectionVars false
open Go.RowKit
set_option linter.unusedVariables false

def symStep (l2 : List Int) (s : ByteArray) (most : Nat) (k : List Nat → Nat → Except Nat (List Nat × Nat)) (out : List Nat) (r : Nat × Nat) : Except Nat (List Nat × Nat) :=
  if r.1 = 256 then .ok (out, r.2) else
    if r.1 < 256 then (if out.length + 1 ≤ most then k (out ++ [r.1]) r.2 else .error 4) else
      copyP l2 s most r.1 out r.2 >>= fun q => k q.1 q.2
def symsP (l1 l2 : List Int) (s : ByteArray) (most : Nat) : Nat → List Nat → Nat → Except Nat (List Nat × Nat)
  | 0, _, _ => .error 0
  | g + 1, out, a => nextP l1 s a >>= symStep l2 s most (symsP l1 l2 s most g) out

theorem nxtF_adv {n : List Nat} {s : ByteArray} {f k a c x : Nat} (h : (nxtF n s f k a c).1 = some x) : a < (nxtF n s f k a c).2.1 := by
  induction f generalizing k a c with
  | zero => cases h
  | succ f ih =>
    by_cases h1 : a < 8 * s.size
    · cases hx : symAt n k (2 * c + rdVal s a 1) with
      | some y => rw [nxtF_some h1 hx]; exact Nat.lt_succ_self a
      | none => rw [nxtF_none h1 hx] at h ⊢; exact Nat.lt_trans (Nat.lt_succ_self a) (ih h)
    · rw [nxtF_end h1] at h; cases h
theorem nextP_adv {l : List Int} {s : ByteArray} {a x a' : Nat} (h : nextP l s a = .ok (x, a')) : a < a' := by
  unfold nextP at h
  split at h
  · cases h
  · have hA := fun x => @nxtF_adv (nats l) s 15 1 a 0 x
    have e : nxt (nats l) s a false = nxtF (nats l) s 15 1 a 0 := rfl
    rw [e] at h
    generalize nxtF (nats l) s 15 1 a 0 = rr at *
    obtain ⟨o, a2, bad⟩ := rr
    cases o with
    | some y => have := hA y rfl; cases h; exact this
    | none => cases bad <;> cases h
theorem takeP_adv {s : ByteArray} {a n v a' : Nat} (h : takeP s a n = .ok (v, a')) : a ≤ a' := by
  unfold takeP at h
  split at h
  · cases h; omega
  · cases h
theorem copyP_adv {l2 : List Int} {s : ByteArray} {most sym : Nat} {out out' : List Nat} {a a' : Nat} (h : copyP l2 s most sym out a = .ok (out', a')) : a ≤ a' := by
  unfold copyP at h
  split at h
  · cases h
  · cases h1 : takeP s a (longB (sym : Nat)).toNat with
    | error c => rw [h1] at h; cases h
    | ok r1 =>
      rw [h1] at h
      have h1' := takeP_adv h1
      replace h : copyLong l2 s most sym out r1 = .ok (out', a') := h
      unfold copyLong at h
      split at h
      · cases h
      · cases h2 : nextP l2 s r1.2 with
        | error c => rw [h2] at h; cases h
        | ok r2 =>
          rw [h2] at h
          have h2' := nextP_adv h2
          rename_i long _
          replace h : copyBack s most long out r2 = .ok (out', a') := h
          unfold copyBack at h
          split at h
          · cases h
          · cases h3 : takeP s r2.2 (backB (r2.1 : Nat)).toNat with
            | error c => rw [h3] at h; cases h
            | ok r3 =>
              rw [h3] at h
              have h3' := takeP_adv h3
              replace h : copyEnd most long out r2.1 r2.2 r3 = .ok (out', a') := h
              unfold copyEnd at h
              split at h
              · cases h
              · split at h
                · split at h
                  · cases h; omega
                  · cases h
                · cases h

/-- A decoder that was made behind w0, for lengths. -/
def DecNew (w0 w : World) (dv : Value) (l : List Int) : Prop :=
  (dv = .pointer none ∧ (kindOf l = 3 ∨ kindOf l = 0)) ∨ (kindOf l ≠ 3 ∧ kindOf l ≠ 0 ∧ ∃ d v, dv = .pointer (some ⟨d, 0, none⟩) ∧ DcAt w d v (nats l) ∧ w0.heap.size ≤ d ∧ ∀ k, v.ownBlock = some k → w0.heap.size ≤ k)
theorem DecNew.upd {w0 w w' : World} {dv : Value} {l : List Int} {fp : List Nat} (h : DecNew w0 w dv l) (hU : Upd fp w w') (hf : ∀ k ∈ fp, k < w0.heap.size) : DecNew w0 w' dv l := by
  rcases h with h | ⟨h1, h2, d, v, e, hD, h3, h4⟩
  · exact .inl h
  · exact .inr ⟨h1, h2, d, v, e, hD.upd hU (fun hm => by have := hf _ hm; omega) (fun k hk hm => by have := hf _ hm; have := h4 k hk; omega), h3, h4⟩
theorem DecNew.for {w0 w : World} {dv : Value} {l : List Int} {b : Nat} (h : DecNew w0 w dv l) (hb : b < w0.heap.size) : DecFor w dv l b := by
  rcases h with h | ⟨h1, h2, d, v, e, hD, h3, h4⟩
  · exact .inl h
  · exact .inr ⟨h1, h2, d, v, e, hD, by omega, fun hm => by have := h4 b hm; omega⟩
theorem DecNew.back {w0 w1 w : World} {dv : Value} {l : List Int} (h : DecNew w1 w dv l) (hs : w0.heap.size ≤ w1.heap.size) : DecNew w0 w dv l := by
  rcases h with h | ⟨h1, h2, d, v, e, hD, h3, h4⟩
  · exact .inl h
  · exact .inr ⟨h1, h2, d, v, e, hD, by omega, fun k hm => by have := h4 k hm; omega⟩
/-- What the rounds keep. -/
def SymsRel (w0 w : World) (x b : Nat) (v0 v : Value) (s : ByteArray) (a : Nat) (out : List Nat) (most : Nat) : Prop :=
  StAt w x b v s a out most ∧ Upd (stFp x b v0) w0 w ∧ Later w0 v0 v
theorem SymsRel.next {w0 w w' : World} {x b : Nat} {v0 v v' : Value} {s : ByteArray} {a a' : Nat} {out out' : List Nat} {most : Nat} (h : SymsRel w0 w x b v0 v s a out most) (hS : StAt w' x b v' s a' out' most) (hU : Upd (stFp x b v) w w') (hT : Later w v v') : SymsRel w0 w' x b v0 v' s a' out' most :=
  ⟨hS, h.2.1.trans hU (fun k hk => by
      simp only [stFp, List.mem_cons] at hk ⊢
      rcases hk with hk | hk | hk
      · exact .inl (.inl hk)
      · exact .inl (.inr (.inl hk))
      · exact (h.2.2.fp k hk).imp (fun h => .inr (.inr h)) id), h.2.2.trans h.2.1.size hT⟩
theorem SymsRel.read {w0 w w' : World} {x b : Nat} {v0 v : Value} {s : ByteArray} {a a' : Nat} {out : List Nat} {most : Nat} (h : SymsRel w0 w x b v0 v s a out most) (hU : Upd [b] w w') (hR : RdAt w' b 123 s a' false) : SymsRel w0 w' x b v0 v s a' out most :=
  ⟨h.1.read hU hR, h.2.1.then (upd_st hU), h.2.2⟩
end Go.Proofs.YtdehkaknbmbieaaGreat
namespace Go.Proofs.YtdehkaknbmbieaaGreat
set_option linter.unusedVariables false
set_option linter.unusedSimpArgs false
set_option linter.unusedSectionVars false
open Go.RowKit
set_option linter.unusedVariables false

def storeEnd (s : ByteArray) (most : Nat) (out : List Nat) (n : Nat) (r : Nat × Nat) : Except Nat (List Nat × Nat) :=
  if r.1 = 65535 - n then
    (if txBad s r.2 false (n : Nat) = true then .error 3 else if out.length + n ≤ most then .ok (out ++ bytesOf (txStr s r.2 false (n : Nat)), txTo s r.2 false (n : Nat)) else .error 4)
  else .error 2
def storeP (s : ByteArray) (most : Nat) (out : List Nat) (a : Nat) : Except Nat (List Nat × Nat) :=
  takeP s (alTo a false) 16 >>= fun r => takeP s r.2 16 >>= storeEnd s most out r.1

end Go.Proofs.YtdehkaknbmbieaaGreat

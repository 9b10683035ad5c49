/- The walks of package huff: near, Cost. -/
import Derived.Lib.MinMax
import Derived.Test.YtdehkaknbmbieaaGreatQAE
import Derived.Test.YtdehkaknbmbieaaGreatQAT
namespace Go.Proofs.YtdehkaknbmbieaaGreat
set_option linter.unusedVariables false
set_option linter.unusedSimpArgs false
set_option linter.unusedSectionVars false
open Go.RowKit
set_option linter.unusedVariables false

@[local go_sem high] theorem run_min3 {P : Program} (w : World) (ts : Array TypeId) (t : TypeId) (k k' k'' : IntKind) (x y z : Int) :
    (Builtin.min_ ts t #[.int k x, .int k' y, .int k'' z]).run P w = .ok (.int k (min (min x y) z)) w := by
  have e : (if z < (if y < x then y else x) then z else (if y < x then y else x)) = min (min x y) z := by
    split <;> split <;> omega
  have h : (Builtin.min_ ts t #[.int k x, .int k' y, .int k'' z]).run P w = .ok (.int k (if z < (if y < x then y else x) then z else (if y < x then y else x))) w := by
    simp [Builtin.min_, Builtin.min2]
  rw [h, e]

def nearI (x : Int) : Int := max 0 (min x 1099511627776)
theorem nearI_b (x : Int) : 0 ≤ nearI x ∧ nearI x ≤ 1099511627776 := by unfold nearI; omega
theorem hnear_any (x : Int) (w : World) : Calls Tryz.prog 99 #[.int .i64 x] w fun e w' => e = .returned (.int .i64 (nearI x)) ∧ w = w' := by
  go_enter Tryz.func99, Tryz.ntmps99
  go_wp2
  go_returns
  exact ⟨rfl, rfl⟩

def hcostTo (l u : List Int) : Nat → Int
  | 0 => 0
  | i + 1 => hcostTo l u i + max 0 (min (l.getD i 0) 15) * nearI (u.getD i 0)
theorem hcostTo_b (l u : List Int) (i : Nat) : 0 ≤ hcostTo l u i ∧ hcostTo l u i ≤ i * 16492674416640 := by
  induction i with
  | zero => simp [hcostTo]
  | succ i ih =>
    simp only [hcostTo]
    have h := nearI_b (u.getD i 0)
    have h1 : 0 ≤ max 0 (min (l.getD i 0) 15) ∧ max 0 (min (l.getD i 0) 15) ≤ 15 := by omega
    generalize max 0 (min (l.getD i 0) 15) = a at *
    generalize nearI (u.getD i 0) = b at *
    have h2 : 0 ≤ a * b := Int.mul_nonneg h1.1 h.1
    have h3 : a * b ≤ 15 * 1099511627776 := Int.le_trans (Int.mul_le_mul_of_nonneg_right h1.2 h.1) (Int.mul_le_mul_of_nonneg_left h.2 (by decide))
    omega

set_option maxRecDepth 100000 in
set_option maxHeartbeats 3200000 in
theorem hcost_any (x y : Option Addr) (cx cy : Nat) (l u : List Int) (w : World) (hI : IntsIn w x l.length l) (hM : IntsIn w y u.length u) (hl : l.length ≤ 9223372036854775807) (hu : u.length ≤ 9223372036854775807) :
    Calls Tryz.prog 70 #[.slice x l.length cx, .slice y u.length cy] w fun e w' => e = .returned (.int .i64 (hcostTo l u (min (min l.length u.length) 300))) ∧ ∃ n, w' = w.drewN n := by
  have hN : Hid (min (min l.length u.length) 300 ≤ 300) := Lib.hid (by omega)
  have hNl : Hid (min (min l.length u.length) 300 ≤ l.length) := Lib.hid (by omega)
  have hNu : Hid (min (min l.length u.length) 300 ≤ u.length) := Lib.hid (by omega)
  have hNe : Hid (((min (min l.length u.length) 300 : Nat) : Int) = min (min (l.length : Int) (u.length : Int)) 300) := Lib.hid (by omega)
  generalize min (min l.length u.length) 300 = N at *
  have HI := Lib.hid hI
  have HM := Lib.hid hM
  clear hI hM
  go_enter Tryz.func70, Tryz.ntmps70
  have hN' := hN.out
  have HM3 := Lib.hid (@run_min3 Tryz.prog)
  go_wp2
  rw [show min (l.length : Int) (min (u.length : Int) 300) = (N : Int) by have := hNe.out; omega]
  go_loopg [4, 11] N (fun g s4 s11 wr => ∃ i n, i ≤ N ∧ g = N - i ∧ s11 = .int .i64 (i : Nat) ∧ s4 = .int .i64 (hcostTo l u i) ∧ w.drewN n = wr)
  case atStart => exact ⟨0, 0, by omega, rfl, rfl, rfl, rfl⟩
  case round =>
    obtain ⟨i, n, hin, rfl, rfl, rfl, rfl⟩ := hrel
    have hcb := hcostTo_b l u i
    have hi300 : (i : Int) * 16492674416640 ≤ 300 * 16492674416640 := by omega
    by_cases hc : i < N
    · have hcz : (i : Int) < (N : Int) := by omega
      have hil : i < l.length := by have := hNl.out; omega
      have hiu : i < u.length := by have := hNu.out; omega
      obtain ⟨b1, o1, rfl, c1, r1, r2⟩ := HI.out.cell i hil
      obtain ⟨b2, o2, rfl, c2, r3, r4⟩ := HM.out.cell i hiu
      have hst := Lib.hid (show hcostTo l u (i + 1) = hcostTo l u i + max 0 (min (l[i]) 15) * nearI (u[i]) by
        simp only [hcostTo, List.getD, List.getElem?_eq_getElem hil, List.getElem?_eq_getElem hiu, Option.getD])
      have hz : decide ((l.length : Int) ≤ (i : Int)) = false := by simp; omega
      have hz2 : decide ((u.length : Int) ≤ (i : Int)) = false := by simp; omega
      have hnb := nearI_b u[i]
      generalize u[i] = y at *
      generalize l[i] = x at *
      have hab : 0 ≤ max 0 (min x 15) ∧ max 0 (min x 15) ≤ 15 := by omega
      have h2 : 0 ≤ max 0 (min x 15) * nearI y := Int.mul_nonneg hab.1 hnb.1
      have h3 : max 0 (min x 15) * nearI y ≤ 16492674416640 := Int.le_trans (Int.mul_le_mul_of_nonneg_right hab.2 hnb.1) (Int.mul_le_mul_of_nonneg_left hnb.2 (by decide))
      generalize hcostTo l u i = c at *
      have d1 : (w.drewN n).cell? ⟨b1, o1 + i, none⟩ = some (.int .i64 x) := c1
      have d2 : (w.drewN n).cell? ⟨b2, o2 + i, none⟩ = some (.int .i64 y) := c2
      clear c1 c2
      generalize hw1 : w.drewN n = w1 at *
      have HW := Lib.hid hw1
      clear hw1
      have HN := Lib.hid (fun w' => hnear_any y w')
      generalize nearI y = ny at *
      clear hN'
      go_wp2
      go_quiet ((go_at_call 99; exact Calls.quiet_of_same ((HN.out _).mono fun e w' ⟨he, hw⟩ => ⟨he, hw.symm⟩)))
      go_wp2
      go_roundg (N - (i + 1))
      case measure => omega
      case rel => exact ⟨i + 1, n + nq, by omega, rfl, by go_num, by rw [hst.out], by rw [← HW.out]; simp⟩
    · have hcz : ¬ (i : Int) < (N : Int) := by omega
      have hi : i = N := by omega
      rw [hi]
      clear hi hc
      generalize hcc : hcostTo l u N = c at *
      have HCC := Lib.hid hcc
      clear hcc
      go_wp2
      go_returns
      exact ⟨by rw [HCC.out]; rfl, n, rfl⟩
end Go.Proofs.YtdehkaknbmbieaaGreat
namespace Go.Proofs.YtdehkaknbmbieaaGreat
set_option linter.unusedVariables false
set_option linter.unusedSimpArgs false
set_option linter.unusedSectionVars false
open Go.RowKit
set_option linter.unusedVariables false
set_option linter.unusedSimpArgs false

def sumI (f : Nat → Int) : Nat → Int
  | 0 => 0
  | i + 1 => sumI f i + f i
theorem sumI_succ (f : Nat → Int) (i : Nat) : sumI f (i + 1) = sumI f i + f i := rfl
theorem sumI_bd (f : Nat → Int) (M : Int) (hM : 0 ≤ M) : ∀ i, (∀ j, j < i → 0 ≤ f j ∧ f j ≤ M) → 0 ≤ sumI f i ∧ sumI f i ≤ i * M
  | 0, _ => by simp [sumI]
  | i + 1, h => by
    have h1 := sumI_bd f M hM i (fun j hj => h j (by omega))
    have h2 := h i (by omega)
    rw [sumI_succ]
    have e : ((i + 1 : Nat) : Int) * M = i * M + M := by rw [Int.natCast_add, Int.add_mul]; simp
    rw [e]
    omega
theorem longB_bd : ∀ j : Fin 286, longB ((j.val : Nat) : Int) ≤ 13 ∧ -1 ≤ longB ((j.val : Nat) : Int) := by decide +kernel
theorem backB_bd : ∀ j : Fin 30, backB ((j.val : Nat) : Int) ≤ 13 ∧ 0 ≤ backB ((j.val : Nat) : Int) := by decide +kernel
def litX (A : List Nat) (j : Nat) : Int := (A.getD j 0 : Nat) * max 0 (longB ((j : Nat) : Int))
def bakX (B : List Nat) (j : Nat) : Int := (B.getD j 0 : Nat) * backB ((j : Nat) : Int)
theorem getD_le {A : List Nat} {M : Nat} (h : ∀ x ∈ A, x ≤ M) (j : Nat) : A.getD j 0 ≤ M := by
  rw [List.getD_eq_getElem?_getD]
  cases h2 : A[j]? with
  | none => simp
  | some y => exact h y (List.mem_of_getElem? h2)
theorem litX_bd {A : List Nat} (h : ∀ x ∈ A, x ≤ 100001) (j : Nat) (hj : j < 286) : 0 ≤ litX A j ∧ litX A j ≤ 1300013 := by
  have h1 := getD_le h j
  have h2 := longB_bd ⟨j, hj⟩
  dsimp only at h2
  unfold litX
  generalize A.getD j 0 = x at *
  have h3 : 0 ≤ max 0 (longB (j : Nat)) ∧ max 0 (longB (j : Nat)) ≤ 13 := by omega
  generalize max 0 (longB (j : Nat)) = m at *
  constructor
  · exact Int.mul_nonneg (by omega) h3.1
  · have := Int.mul_le_mul (show (x : Int) ≤ 100001 by omega) h3.2 h3.1 (by omega)
    omega
theorem bakX_bd {B : List Nat} (h : ∀ x ∈ B, x ≤ 100001) (j : Nat) (hj : j < 30) : 0 ≤ bakX B j ∧ bakX B j ≤ 1300013 := by
  have h1 := getD_le h j
  have h2 := backB_bd ⟨j, hj⟩
  dsimp only at h2
  unfold bakX
  generalize B.getD j 0 = x at *
  generalize backB (j : Nat) = m at *
  constructor
  · exact Int.mul_nonneg (by omega) h2.2
  · have := Int.mul_le_mul (show (x : Int) ≤ 100001 by omega) h2.1 h2.2 (by omega)
    omega
/-- How many bits tokens have by any lengths. -/
def bodyI (x y : List Int) (p : List Nat × List Nat) : Int :=
  hcostTo x (ints p.1) (min (min x.length 286) 300) + hcostTo y (ints p.2) (min (min y.length 30) 300) + sumI (litX p.1) 286 + sumI (bakX p.2) 30
def BodyP (x y : List Int) (l : List Tok) (w : World) (e : Ending) (w' : World) : Prop := e = .returned (.int .i64 (bodyI x y (manyF l))) ∧ Upd [] w w'
set_option maxRecDepth 100000 in
set_option maxHeartbeats 6400000 in
theorem body_any (l : List Tok) (x y : List Int) (a ax ay : Option Addr) (n cap nx cx ny cy : Nat) (w : World) (hI : TokIn w a n l) (hn : n ≤ 100000) (hok : ∀ t ∈ l, okTok t)
    (hX : IntsIn w ax nx x) (hY : IntsIn w ay ny y) (hnx : nx ≤ 9223372036854775807) (hny : ny ≤ 9223372036854775807) :
    Calls Tryz.prog 32 #[.slice a n cap, .slice ax nx cx, .slice ay ny cy] w fun e w' => BodyP x y l w e w' := by
  have HMA := Lib.hid (many_any l a n cap w hI hn hok)
  have HMO := Lib.hid (by have := many_ok l l.length (Nat.le_refl _); rw [List.take_length] at this; exact this)
  have HLN := Lib.hid hI.len
  have HX := Lib.hid hX
  have HY := Lib.hid hY
  have hlx := hX.len
  have hly := hY.len
  subst hlx hly
  clear hI hok hX hY
  unfold BodyP
  obtain ⟨R, hR⟩ : ∃ R, bodyI x y (manyF l) = R := ⟨_, rfl⟩
  rw [hR]
  unfold bodyI at hR
  have HRR := Lib.hid hR
  clear hR
  unfold ManyP at HMA
  generalize manyF l = p at *
  obtain ⟨pa, pb⟩ := p
  dsimp only at HMA HRR
  go_enter Tryz.func32, Tryz.ntmps32
  go_wp2_with fail
  refine HMA.out.mono ?_
  rintro e w1 ⟨oa, ob, rfl, hA, hB, _, _, _, hU1⟩
  have hla : pa.length = 286 := HMO.out.la
  have hlb : pb.length = 30 := HMO.out.lb
  have hba : ∀ v ∈ pa, v ≤ 100001 := fun v hv => by have := HMO.out.ba v hv; have := HLN.out; omega
  have hbb : ∀ v ∈ pb, v ≤ 100001 := fun v hv => by have := HMO.out.bb v hv; have := HLN.out; omega
  have hIA : IntsIn w1 (some ⟨oa, 0, none⟩) (ints pa).length (ints pa) := IntsIn.blk hA (by simp [ints]) (fun v hv => by have := hba v hv; omega)
  have hIB : IntsIn w1 (some ⟨ob, 0, none⟩) (ints pb).length (ints pb) := IntsIn.blk hB (by simp [ints]) (fun v hv => by have := hbb v hv; omega)
  have hpa : (ints pa).length = 286 := by simp [ints, hla]
  have hpb : (ints pb).length = 30 := by simp [ints, hlb]
  have HC1 := Lib.hid (hcost_any ax (some ⟨oa, 0, none⟩) cx 286 x (ints pa) w1 (HX.out.pure hU1) hIA hnx (by omega))
  have HC2 := Lib.hid (fun w2 (h : Upd [] w1 w2) => hcost_any ay (some ⟨ob, 0, none⟩) cy 30 y (ints pb) w2 ((HY.out.pure hU1).pure h) (hIB.pure h) hny (by omega))
  have hb1 := hcostTo_b x (ints pa) (min (min x.length 286) 300)
  have hb2 := hcostTo_b y (ints pb) (min (min y.length 30) 300)
  rw [hpa] at HC1
  rw [hpb] at HC2
  have hk1 : ((min (min x.length 286) 300 : Nat) : Int) ≤ 300 := by omega
  have hk2 : ((min (min y.length 30) 300 : Nat) : Int) ≤ 300 := by omega
  have hc1 : 0 ≤ hcostTo x (ints pa) (min (min x.length 286) 300) ∧ hcostTo x (ints pa) (min (min x.length 286) 300) ≤ 4947802324992000 := by omega
  have hc2 : 0 ≤ hcostTo y (ints pb) (min (min y.length 30) 300) ∧ hcostTo y (ints pb) (min (min y.length 30) 300) ≤ 4947802324992000 := by omega
  generalize hcostTo x (ints pa) (min (min x.length 286) 300) = C1 at *
  generalize hcostTo y (ints pb) (min (min y.length 30) 300) = C2 at *
  have hw0 : IntKind.i64.wrap (C1 + C2) = C1 + C2 := IntWalk.i64_in _ (by omega)
  have HA := Lib.hid hA
  have HB := Lib.hid hB
  have HU1 := Lib.hid hU1
  have HLA := Lib.hid hla
  have HLB := Lib.hid hlb
  have HBA := Lib.hid hba
  have HBB := Lib.hid hbb
  clear hA hB hU1 hla hlb hba hbb hIA hIB hpa hpb hb1 hb2 hk1 hk2 HMA
  go_wp2_with fail
  refine HC1.out.mono ?_
  rintro e w2 ⟨rfl, q2, rfl⟩
  go_wp2_with fail
  refine (HC2.out _ ((Upd.refl [] w1).drewN q2)).mono ?_
  rintro e w3 ⟨rfl, q3, rfl⟩
  have HA3 := Lib.hid (HA.out.drewN (q2 + q3))
  have HB3 := Lib.hid (HB.out.drewN (q2 + q3))
  have HU3 := Lib.hid (HU1.out.drewN (q2 + q3))
  clear HC1 HC2 HA HB HU1
  go_wp2
  generalize w1.drewN (q2 + q3) = w4 at *
  have hCb : 0 ≤ C1 + C2 ∧ C1 + C2 ≤ 9895604649984000 := by omega
  obtain ⟨C, hC⟩ : ∃ C, C1 + C2 = C := ⟨_, rfl⟩
  rw [hC] at hCb ⊢
  clear hw0 hc1 hc2
  have HC := Lib.hid hC
  clear hC
  have HLS : Hid (∀ j, j < 286 → 0 ≤ litX pa j ∧ litX pa j ≤ 1300013) := Lib.hid (fun j hj => litX_bd HBA.out j hj)
  have HBS : Hid (∀ j, j < 30 → 0 ≤ bakX pb j ∧ bakX pb j ≤ 1300013) := Lib.hid (fun j hj => bakX_bd HBB.out j hj)
  go_loopg [9, 28] 1000 (fun gg s9 s28 wr => ∃ i : Nat, i ≤ 286 ∧ gg = 1000 - i ∧ s28 = .int .i64 (i : Nat) ∧ s9 = .int .i64 (C + sumI (litX pa) i) ∧ Hid (Upd [] w4 wr))
  case atStart => exact ⟨0, by omega, by omega, rfl, by rw [show sumI (litX pa) 0 = 0 from rfl, Int.add_zero], Lib.hid (Upd.refl _ _)⟩
  case round =>
    obtain ⟨i, hi, rfl, rfl, rfl, HU⟩ := hrel
    have hsb := sumI_bd (litX pa) 1300013 (by omega) i (fun j hj => HLS.out j (by omega))
    have hsb2 : sumI (litX pa) i ≤ 371803718 := by omega
    have hsb1 := hsb.1
    clear hsb
    by_cases hc : i < 286
    · have hcz : (i : Int) < 286 := by omega
      have hw1 : IntKind.i64.wrap ((i : Int) + 1) = ((i + 1 : Nat) : Int) := by rw [IntWalk.i64_in _ (by omega)]; rfl
      have hgt : pa[i]? = some (pa.getD i 0) := by rw [List.getD_eq_getElem?_getD, List.getElem?_eq_getElem (by rw [HLA.out]; exact hc)]; rfl
      have ca := (HA3.out.upd HU.out (by simp)).cell i (i64s_get pa i _ hgt)
      have HLB2 := Lib.hid (fun w' => longBits_any i w' (by omega))
      have hx := HLS.out i hc
      have HLX : Hid (litX pa i = (pa.getD i 0 : Nat) * max 0 (longB ((i : Nat) : Int))) := Lib.hid rfl
      have HSU : Hid (sumI (litX pa) (i + 1) = sumI (litX pa) i + litX pa i) := Lib.hid rfl
      have hxm : ((pa.getD i 0 : Nat) : Int) * max 0 (longB ((i : Nat) : Int)) = litX pa i := rfl
      generalize litX pa i = X at *
      generalize sumI (litX pa) i = S at *
      generalize longB ((i : Nat) : Int) = B at *
      generalize pa.getD i 0 = y at *
      have hwm : IntKind.i64.wrap ((y : Int) * max 0 B) = X := by rw [hxm]; exact IntWalk.i64_in _ (by omega)
      have hws : IntKind.i64.wrap (C + S + X) = C + S + X := IntWalk.i64_in _ (by omega)
      clear hxm hgt
      go_wp2_with fail
      refine (HLB2.out _).mono ?_
      rintro e w5 ⟨rfl, hU5⟩
      have HU5 := Lib.hid (HU.out.then hU5)
      clear hU5 HLB2
      go_wp2
      go_roundg (1000 - (i + 1))
      · exact ⟨i + 1, by omega, by first | rfl | omega, by first | rfl | go_num, by rw [HSU.out]; congr 1; omega, HU5⟩
      · omega
    · have hcz : ¬ (i : Int) < 286 := by omega
      obtain rfl : i = 286 := by omega
      have HS1 : Hid (sumI (litX pa) 286 = sumI (litX pa) 286) := Lib.hid rfl
      obtain ⟨S1, hS1⟩ : ∃ S1, sumI (litX pa) 286 = S1 := ⟨_, rfl⟩
      rw [hS1] at hsb1 hsb2 ⊢
      have HSE := Lib.hid hS1
      obtain ⟨D, hD⟩ : ∃ D, C + S1 = D := ⟨_, rfl⟩
      have hDb : 0 ≤ D ∧ D ≤ 9895604649984000 + 371803718 := by omega
      have hDb2 : D ≤ 9895605021787718 := by omega
      rw [hD]
      have HD := Lib.hid hD
      clear hS1 hD hDb HS1
      have hD0 : 0 ≤ D := by have := HD.out; omega
      go_wp2
      go_loopg [9, 43] 1000 (fun gg s9 s43 wq => ∃ k : Nat, k ≤ 30 ∧ gg = 1000 - k ∧ s43 = .int .i64 (k : Nat) ∧ s9 = .int .i64 (D + sumI (bakX pb) k) ∧ Hid (Upd [] w4 wq))
      case atStart => exact ⟨0, by omega, by omega, rfl, by rw [show sumI (bakX pb) 0 = 0 from rfl, Int.add_zero], HU⟩
      case round =>
        obtain ⟨k, hk, rfl, rfl, rfl, HU⟩ := hrel
        have hsb := sumI_bd (bakX pb) 1300013 (by omega) k (fun j hj => HBS.out j (by omega))
        have hsb3 : sumI (bakX pb) k ≤ 39000390 := by omega
        have hsb4 := hsb.1
        clear hsb
        by_cases hkc : k < 30
        · have hkz : (k : Int) < 30 := by omega
          have hw1 : IntKind.i64.wrap ((k : Int) + 1) = ((k + 1 : Nat) : Int) := by rw [IntWalk.i64_in _ (by omega)]; rfl
          have hgt : pb[k]? = some (pb.getD k 0) := by rw [List.getD_eq_getElem?_getD, List.getElem?_eq_getElem (by rw [HLB.out]; exact hkc)]; rfl
          have ca := (HB3.out.upd HU.out (by simp)).cell k (i64s_get pb k _ hgt)
          have HLB2 := Lib.hid (fun w' => backBits_any ((k : Nat) : Int) w')
          have hx := HBS.out k hkc
          have HSU : Hid (sumI (bakX pb) (k + 1) = sumI (bakX pb) k + bakX pb k) := Lib.hid rfl
          have hxm : ((pb.getD k 0 : Nat) : Int) * backB ((k : Nat) : Int) = bakX pb k := rfl
          generalize bakX pb k = X at *
          generalize sumI (bakX pb) k = S at *
          generalize backB ((k : Nat) : Int) = B at *
          generalize pb.getD k 0 = y at *
          have hwm : IntKind.i64.wrap ((y : Int) * B) = X := by rw [hxm]; exact IntWalk.i64_in _ (by omega)
          have hws : IntKind.i64.wrap (D + S + X) = D + S + X := IntWalk.i64_in _ (by omega)
          clear hxm hgt
          go_wp2_with fail
          refine (HLB2.out _).mono ?_
          rintro e w5 ⟨rfl, hU5⟩
          have HU5 := Lib.hid (HU.out.then hU5)
          clear hU5 HLB2
          go_wp2
          go_roundg (1000 - (k + 1))
          · exact ⟨k + 1, by omega, by first | rfl | omega, by first | rfl | go_num, by rw [HSU.out]; congr 1; omega, HU5⟩
          · omega
        · have hkz : ¬ (k : Int) < 30 := by omega
          obtain rfl : k = 30 := by omega
          have HF : Hid (D + sumI (bakX pb) 30 = R) := Lib.hid (by rw [← HRR.out, HC.out, HSE.out, HD.out])
          generalize sumI (bakX pb) 30 = S3 at *
          generalize sumI (litX pa) 286 = S4 at *
          go_wp2
          go_ret
          exact ⟨by rw [← HF.out]; rfl, HU3.out.then HU.out⟩
end Go.Proofs.YtdehkaknbmbieaaGreat

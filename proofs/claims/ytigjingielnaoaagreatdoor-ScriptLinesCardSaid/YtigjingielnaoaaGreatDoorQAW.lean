/- Package script: number: its walk. -/
import Derived.Test.YtigjingielnaoaaGreatDoorQAV
import Derived.Test.YtigjingielnaoaaGreatDoorQAK
import Derived.Test.YtigjingielnaoaaGreatDoorScLv
import Derived.Test.YtigjingielnaoaaGreatDoorSBare
namespace Go.Proofs.YtigjingielnaoaaGreatDoor
set_option linter.unusedVariables false
set_option linter.unusedSimpArgs false
set_option linter.unusedSectionVars false
open Go.RowKit
set_option linter.unusedVariables false
set_option linter.unusedSimpArgs false

def foldZ (l : List Nat) : Int := l.foldl (fun (n : Int) (c : Nat) => 10 * n + (c : Int) - 48) (0 : Int)
theorem foldZ_snoc (l : List Nat) (c : Nat) : foldZ (l ++ [c]) = 10 * foldZ l + (c : Int) - 48 := by unfold foldZ; rw [List.foldl_append]; rfl
theorem foldZ_bd : ∀ (n : Nat) (l : List Nat), l.length = n → (∀ x ∈ l, x < 256) → -(23 * ((10 ^ n : Nat) : Int) - 23) ≤ foldZ l ∧ foldZ l ≤ 23 * ((10 ^ n : Nat) : Int) - 23
  | 0, l, h, _ => by rw [List.eq_nil_of_length_eq_zero h]; simp [foldZ]
  | n + 1, l, h, hx => by
    rcases List.eq_nil_or_concat l with rfl | ⟨L, c, rfl⟩
    · simp at h
    · rw [List.concat_eq_append] at h hx ⊢
      have ih := foldZ_bd n L (by simp at h; exact h) (fun x h => hx x (List.mem_append_left _ h))
      have hc := hx c (by simp)
      rw [foldZ_snoc, Nat.pow_succ]
      have e : ((10 ^ n * 10 : Nat) : Int) = 10 * ((10 ^ n : Nat) : Int) := by rw [Nat.mul_comm]; simp
      rw [e]
      generalize ((10 ^ n : Nat) : Int) = p at *
      omega
theorem foldZ_bd9 (l : List Nat) (h : l.length ≤ 9) (hx : ∀ x ∈ l, x < 256) : -23000000000 < foldZ l ∧ foldZ l < 23000000000 := by
  have h1 := foldZ_bd l.length l rfl hx
  have h2 : 10 ^ l.length ≤ 10 ^ 9 := Nat.pow_le_pow_right (by omega) h
  generalize 10 ^ l.length = p at *
  omega
/-- A number in decimal, with a sign; whatever of others. -/
def numZ (l : List Nat) : Int := if begM l = true then -(foldZ ((l.drop 1).take 9)) else foldZ (l.take 9)
set_option maxRecDepth 100000 in
set_option maxHeartbeats 3200000 in
theorem snum_any (S : ByteArray) (w : World) (hs : S.size ≤ 9223372036854775807) : Calls Tryz.prog 59 #[.string S] w fun e w' => e = .returned (.int .i64 (numZ (bytesOf S))) ∧ Upd [] w w' := by
  have HT := Lib.hid (fun w => trimM_any S w hs)
  obtain ⟨T, hT⟩ : ∃ T, trimM S = T := ⟨_, rfl⟩
  have HV : Hid ((T.size < S.size ∧ numZ (bytesOf S) = -(foldZ ((bytesOf T).take 9))) ∨ (T.size = S.size ∧ numZ (bytesOf S) = foldZ ((bytesOf T).take 9))) := Lib.hid (by
    rw [← hT]
    unfold trimM numZ
    cases hb : begM (bytesOf S) with
    | true =>
      have h1 := begM_pos hb
      rw [length_bytesOf] at h1
      left
      rw [if_pos rfl, if_pos rfl, bytesOf_drop, ByteArray.size_extract]
      exact ⟨by omega, rfl⟩
    | false => right; rw [if_neg (by decide), if_neg (by decide)]; exact ⟨rfl, rfl⟩)
  rw [hT] at HT
  have hTs : T.size ≤ 9223372036854775807 := by rcases HV.out with h | h <;> omega
  clear hT
  obtain ⟨m, hm⟩ : ∃ m, m = min T.size 9 := ⟨_, rfl⟩
  have e1 : min (T.size : Int) 9 = (m : Int) := by omega
  have HL : Hid (m ≤ T.size ∧ m ≤ 9) := Lib.hid (by omega)
  have HTK : Hid ((bytesOf T).take m = (bytesOf T).take 9) := Lib.hid (by
    rw [hm]
    by_cases h : T.size ≤ 9
    · rw [Nat.min_eq_left h, List.take_of_length_le (by rw [length_bytesOf]; exact Nat.le_refl _), List.take_of_length_le (by rw [length_bytesOf]; omega)]
    · rw [Nat.min_eq_right (by omega)])
  clear hm
  go_enter Tryz.func59, Tryz.ntmps59
  go_wp2_with fail
  refine (HT.out _).mono ?_
  rintro e w1 ⟨rfl, rfl⟩
  go_wp2
  go_loopg [2, 10] m (fun gg s2 s10 wr => ∃ (i : Nat) (n : Int), i ≤ m ∧ gg = m - i ∧ s10 = .int .i64 (i : Nat) ∧ s2 = .int .i64 n ∧ Hid (n = foldZ ((bytesOf T).take i)) ∧ -23000000000 < n ∧ n < 23000000000 ∧ Hid (Upd [] w wr))
  case atStart => exact ⟨0, 0, Nat.zero_le _, rfl, rfl, rfl, Lib.hid rfl, by omega, by omega, Lib.hid (Upd.refl _ _)⟩
  case round =>
    obtain ⟨i, n, hin, rfl, rfl, rfl, HM, hn1, hn2, HU⟩ := hrel
    by_cases hc : i < m
    · have hcz : (i : Int) < (m : Int) := by omega
      have hl := HL.out
      have hci : i < T.size := by omega
      have hil : i < (bytesOf T).length := by rw [length_bytesOf]; exact hci
      have HG : foldZ ((bytesOf T).take (i + 1)) = 10 * n + ((T[i].toNat : Nat) : Int) - 48 := by
        rw [List.take_succ_eq_append_getElem hil, foldZ_snoc, ← HM.out, bytesOf_get T i hci]
      have hbd := foldZ_bd9 ((bytesOf T).take (i + 1)) (by rw [List.length_take]; omega) (fun x hx => bytesOf_lt T x (List.mem_of_mem_take hx))
      have hbl : T[i].toNat < 256 := T[i].toNat_lt
      have HGG := Lib.hid HG
      rw [HG] at hbd
      have hb1 := hbd.1
      have hb2 := hbd.2
      have hw0 : IntKind.i64.wrap (10 * n) = 10 * n := IntWalk.i64_in _ (by omega)
      have hw1 : IntKind.i64.wrap (10 * n + ((T[i].toNat : Nat) : Int)) = 10 * n + ((T[i].toNat : Nat) : Int) := IntWalk.i64_in _ (by omega)
      have hw2 : IntKind.i64.wrap (10 * n + ((T[i].toNat : Nat) : Int) - 48) = 10 * n + ((T[i].toNat : Nat) : Int) - 48 := IntWalk.i64_in _ (by omega)
      clear HG HM hbd hl
      go_wp2
      go_roundg (m - (i + 1))
      · exact ⟨i + 1, 10 * n + ((T[i].toNat : Nat) : Int) - 48, by omega, rfl, by first | rfl | go_num, by first | rfl | go_num, Lib.hid HGG.out.symm, hb1, hb2, HU⟩
      · omega
    · have hcz : ¬ (i : Int) < (m : Int) := by omega
      obtain rfl : i = m := by omega
      have HM2 : Hid (n = foldZ ((bytesOf T).take 9)) := Lib.hid (by rw [HM.out, HTK.out])
      rcases HV.out with ⟨h1, h2⟩ | ⟨h1, h2⟩
      · have hz1 : (T.size : Int) < (S.size : Int) := by omega
        have hwn : IntKind.i64.wrap (-n) = -n := IntWalk.i64_in _ (by omega)
        have HR : Hid (numZ (bytesOf S) = -n) := Lib.hid (by rw [h2, HM2.out])
        clear h2
        go_wp2
        go_ret
        exact ⟨by rw [HR.out]; rfl, HU.out⟩
      · have hz1 : ¬ (T.size : Int) < (S.size : Int) := by omega
        have hz2 : ¬ T.size < S.size := by omega
        have HR : Hid (numZ (bytesOf S) = n) := Lib.hid (by rw [h2, HM2.out])
        clear h2 h1
        go_wp2
        go_ret
        exact ⟨by rw [HR.out]; rfl, HU.out⟩
end Go.Proofs.YtigjingielnaoaaGreatDoor
namespace Go.Proofs.YtigjingielnaoaaGreatDoor
set_option linter.unusedVariables false
set_option linter.unusedSimpArgs false
set_option linter.unusedSectionVars false
open Go.RowKit
attribute [local go_sem] Oper.semAt_some
set_option linter.unusedVariables false
set_option linter.unusedSimpArgs false

/-- The name of a step. -/
def nameN (n : Int) : List Nat := if 1 ≤ n ∧ n ≤ 14 then opNames.getD (n.toNat - 1) [] else []
set_option maxRecDepth 100000 in
set_option maxHeartbeats 3200000 in
theorem sname_any (n : Int) (w : World) : Calls Tryz.prog 15 #[.int .i64 n] w fun e w' => e = .returned (.string (strOf (nameN n))) ∧ w' = w := by
  by_cases h1 : n < 1
  · have HV : Hid (nameN n = []) := Lib.hid (if_neg (by omega))
    go_enter Tryz.func15, Tryz.ntmps15
    go_wp2
    go_ret
    exact ⟨by rw [HV.out]; rfl, rfl⟩
  · by_cases h2 : 14 < n
    · have HV : Hid (nameN n = []) := Lib.hid (if_neg (by omega))
      go_enter Tryz.func15, Tryz.ntmps15
      go_wp2
      go_ret
      exact ⟨by rw [HV.out]; rfl, rfl⟩
    · obtain ⟨i, hi, rfl⟩ : ∃ i : Nat, i < 14 ∧ n = (i : Int) + 1 := ⟨(n - 1).toNat, by omega, by omega⟩
      have hix := run_indexAggS (P := Tryz.prog) 68 9 14 Tryz.underlying68 Tryz.underlying9 (by kernel_rfl) (opNames.map fun p => .string (strOf p)) rfl .i64 i hi w
      have e : (opNames.map fun p => (Value.string (strOf p))).toArray = #[.string ⟨#[112, 117, 116]⟩, .string ⟨#[99, 108, 101, 97, 114]⟩, .string ⟨#[114, 101, 110, 97, 109, 101]⟩, .string ⟨#[101, 100, 105, 116]⟩, .string ⟨#[115, 121, 110, 99]⟩, .string ⟨#[112, 97, 99, 107]⟩, .string ⟨#[117, 110, 112, 97, 99, 107]⟩, .string ⟨#[99, 111, 109, 112, 97, 99, 116]⟩, .string ⟨#[118, 101, 114, 105, 102, 121]⟩, .string ⟨#[115, 116, 97, 116, 117, 115]⟩, .string ⟨#[112, 111, 119, 101, 114]⟩, .string ⟨#[102, 97, 105, 108]⟩, .string ⟨#[108, 105, 109, 105, 116]⟩, .string ⟨#[114, 101, 99, 111, 118, 101, 114]⟩] := rfl
      rw [e] at hix
      have e2 : (opNames.map fun p => (Value.string (strOf p))).getD i undef = .string (strOf (nameN ((i : Int) + 1))) := by
        unfold nameN
        rw [if_pos (by omega)]
        have hl : i < opNames.length := hi
        rw [List.getD_eq_getElem?_getD, List.getElem?_map, List.getElem?_eq_getElem hl, List.getD_eq_getElem?_getD, show ((i : Int) + 1).toNat - 1 = i by omega, List.getElem?_eq_getElem hl]
        rfl
      rw [e2] at hix
      clear e e2
      generalize strOf (nameN ((i : Int) + 1)) = RR at *
      have hw1 : IntKind.i64.wrap ((i : Int) + 1 - 1) = (i : Int) := by rw [IntWalk.i64_in _ (by omega)]; omega
      go_enter Tryz.func15, Tryz.ntmps15
      go_wp2
      go_ret
      exact ⟨rfl, rfl⟩
end Go.Proofs.YtigjingielnaoaaGreatDoor
namespace Go.Proofs.YtigjingielnaoaaGreatDoor
set_option linter.unusedVariables false
set_option linter.unusedSimpArgs false
set_option linter.unusedSectionVars false
open Go.RowKit
set_option linter.unusedVariables false
set_option linter.unusedSimpArgs false

/-- The step of a name; 0: there is none. -/
def opN (l : List Nat) : Nat := ((List.range 14).find? fun (i : Nat) => decide (nameN ((i : Int) + 1) = l)).elim 0 (· + 1)
theorem opN_at {l : List Nat} {i : Nat} (hi : i < 14) (h : nameN ((i : Int) + 1) = l) (hn : ∀ j : Nat, j < i → nameN ((j : Int) + 1) ≠ l) : opN l = i + 1 := by
  have : (List.range 14).find? (fun (i : Nat) => decide (nameN ((i : Int) + 1) = l)) = some i := by
    rw [List.find?_range_eq_some]
    exact ⟨decide_eq_true h, by simpa using hi, fun j hj => by simpa using hn j hj⟩
  unfold opN
  rw [this]
  rfl
theorem opN_no {l : List Nat} (hn : ∀ j : Nat, j < 14 → nameN ((j : Int) + 1) ≠ l) : opN l = 0 := by
  have : (List.range 14).find? (fun (i : Nat) => decide (nameN ((i : Int) + 1) = l)) = none := by
    rw [List.find?_eq_none]
    intro j hj
    have := hn j (by simpa using hj)
    simpa using this
  unfold opN
  rw [this]
  rfl
theorem nameN_lt (n : Int) : ∀ x ∈ nameN n, x < 256 := by
  intro x hx
  unfold nameN at hx
  split at hx
  · rename_i h
    have hall : ∀ i : Fin 14, ∀ x ∈ opNames.getD i.1 [], x < 256 := by decide +kernel
    exact hall ⟨n.toNat - 1, by omega⟩ x hx
  · cases hx
set_option maxRecDepth 100000 in
set_option maxHeartbeats 3200000 in
theorem sop_any (S : ByteArray) (w : World) : Calls Tryz.prog 26 #[.string S] w fun e w' => e = .returned (.int .i64 (opN (bytesOf S) : Nat)) ∧ w' = w := by
  have HE := Lib.hid (fun n : Int => strOf_eqS (nameN n) S (nameN_lt n))
  generalize bytesOf S = l at *
  go_enter Tryz.func26, Tryz.ntmps26
  go_wp2
  go_loopg [3] 14 (fun gg s3 wr => ∃ i : Nat, i ≤ 14 ∧ gg = 14 - i ∧ s3 = .int .i64 ((i : Int) + 1) ∧ Hid (∀ j : Nat, j < i → nameN ((j : Int) + 1) ≠ l) ∧ wr = w)
  case atStart => exact ⟨0, by omega, rfl, rfl, Lib.hid (fun j hj => by omega), rfl⟩
  case round =>
    obtain ⟨i, hin, rfl, rfl, HN, rfl⟩ := hrel
    by_cases hc : i < 14
    · have hcz : (i : Int) + 1 ≤ 14 := by omega
      have hw1 : IntKind.i64.wrap ((i : Int) + 1 + 1) = (i : Int) + 1 + 1 := IntWalk.i64_in _ (by omega)
      have HX := Lib.hid (fun w => sname_any ((i : Int) + 1) w)
      have heq := HE.out ((i : Int) + 1)
      by_cases hq : nameN ((i : Int) + 1) = l
      · have HV := Lib.hid (opN_at hc hq HN.out)
        rw [decide_eq_true hq] at heq
        clear hq
        go_wp2_with fail
        refine (HX.out _).mono ?_
        rintro e w1 ⟨rfl, hw1⟩
        subst hw1
        go_wp2
        go_ret
        exact ⟨by rw [HV.out]; rfl, rfl⟩
      · have HN2 : Hid (∀ j : Nat, j < i + 1 → nameN ((j : Int) + 1) ≠ l) := Lib.hid (fun j hj => by
          rcases Nat.lt_or_ge j i with h | h
          · exact HN.out j h
          · rw [show j = i by omega]; exact hq)
        rw [decide_eq_false hq] at heq
        clear hq
        go_wp2_with fail
        refine (HX.out _).mono ?_
        rintro e w1 ⟨rfl, hw1⟩
        subst hw1
        go_wp2
        go_roundg (14 - (i + 1))
        · exact ⟨i + 1, by omega, rfl, by first | rfl | go_num, HN2, rfl⟩
        · omega
    · have hcz : ¬ (i : Int) + 1 ≤ 14 := by omega
      have HV := Lib.hid (opN_no (l := l) (fun j hj => HN.out j (by omega)))
      go_wp2
      go_ret
      exact ⟨by rw [HV.out]; rfl, rfl⟩
end Go.Proofs.YtigjingielnaoaaGreatDoor
namespace Go.Proofs.YtigjingielnaoaaGreatDoor
set_option linter.unusedVariables false
set_option linter.unusedSimpArgs false
set_option linter.unusedSectionVars false
open Go.RowKit
set_option linter.unusedVariables false
set_option linter.unusedSimpArgs false

/-- The names of the policies. -/
def polNames : List (List Nat) := [[115, 107, 105, 112], [108, 101, 102, 116], [114, 105, 103, 104, 116], [110, 101, 119, 101, 114]]
def polN (n : Int) : List Nat := if 0 ≤ n ∧ n ≤ 3 then polNames.getD n.toNat [] else []
/-- The policy of a name; -1: there is none. -/
def polI (l : List Nat) : Int := if polN 0 = l then 0 else if polN 1 = l then 1 else if polN 2 = l then 2 else if polN 3 = l then 3 else -1
theorem polI_polN (n : Int) (h : 0 ≤ n ∧ n ≤ 3) : polI (polN n) = n := by
  obtain rfl | rfl | rfl | rfl : n = 0 ∨ n = 1 ∨ n = 2 ∨ n = 3 := by omega
  all_goals decide
/-- May what plays a part be? -/
def mayE (e : EvN) : Bool :=
  if e.op = 1 then rightP (bytesOf e.p) && decide (nodeErr e.k e.m e.t e.D = 0) && decide (e.k ≠ 0)
  else if e.op = 4 then rightP (bytesOf e.p) && decide (nodeErr e.k e.m e.t e.D = 0)
  else if e.op = 2 then rightP (bytesOf e.p)
  else if e.op = 3 then rightP (bytesOf e.p) && rightP (bytesOf e.q)
  else if e.op = 5 then decide (0 ≤ e.n ∧ e.n ≤ 3)
  else if e.op = 11 ∨ e.op = 12 ∨ e.op = 13 then decide (-1 ≤ e.n ∧ e.n ≤ 100000)
  else if e.op = 14 then decide (e.l.length ≤ 50 ∧ ∀ x ∈ e.l, 0 ≤ x ∧ x ≤ 1000)
  else decide (1 ≤ e.op ∧ e.op ≤ 14)
def rightE (e : EvN) : Bool := mayE e && sameE e (bareE e)
/-- The words of a line behind the step's name. -/
def argsE (e : EvN) : List (List Nat) :=
  if e.op = 1 ∨ e.op = 4 then [bytesOf e.p, (NodN.mk e.k e.m e.t e.D).text]
  else if e.op = 2 then [bytesOf e.p]
  else if e.op = 3 then [bytesOf e.p, bytesOf e.q]
  else if e.op = 5 then [polN e.n]
  else if e.op = 11 ∨ e.op = 12 ∨ e.op = 13 then [decZ e.n]
  else if e.op = 14 then [listP e.l]
  else []
/-- An event's line. -/
def lineE (e : EvN) : List Nat := if rightE e = true then joinC 9 (nameN e.op :: argsE e) else []
/-- An event with all that words may say. -/
def fillE (o : Int) (w : List (List Nat)) : EvN :=
  if w = [] then ⟨o, ⟨#[]⟩, ⟨#[]⟩, 0, 0, 0, ⟨#[]⟩, 0, .slice none 0 0, []⟩
  else ⟨o, strOf (w.headD []), strOf (w.getLastD []), (nodN (w.getLastD [])).k, (nodN (w.getLastD [])).m, (nodN (w.getLastD [])).t, (nodN (w.getLastD [])).D,
    if o = 5 then polI (w.getLastD []) else numZ (w.getLastD []), .slice none 0 0, if w.getLastD [] = [45] then [] else (splitC 44 (w.getLastD [])).map numZ⟩
def readE (l : List Nat) : EvN := bareE (fillE (opN ((splitC 9 l).headD [])) (splitC 9 l).tail)
def readOk (l : List Nat) : Bool := decide (l ≠ [] ∧ lineE (readE l) = l)
def EvN.no : EvN := ⟨0, ⟨#[]⟩, ⟨#[]⟩, 0, 0, 0, ⟨#[]⟩, 0, .slice none 0 0, []⟩
def readR (l : List Nat) : EvN := if readOk l = true then readE l else EvN.no
/-- The event with its numbers elsewhere. -/
def EvN.at (e : EvN) (v : Value) : EvN := ⟨e.op, e.p, e.q, e.k, e.m, e.t, e.D, e.n, v, e.l⟩
theorem sameE_refl (e : EvN) : sameE e e = true := by unfold sameE; simp
theorem sameE_iff {e o : EvN} : sameE e o = true ↔ e.op = o.op ∧ e.p = o.p ∧ e.q = o.q ∧ e.k = o.k ∧ e.m = o.m ∧ e.t = o.t ∧ e.D = o.D ∧ e.n = o.n ∧ e.l = o.l := by unfold sameE; simp
theorem bareE_at (e : EvN) (v : Value) : ∃ v', bareE (e.at v) = (bareE e).at v' ∧ (v' = v ∨ v' = (bareE e).v) := by
  unfold bareE EvN.at
  dsimp only
  repeat' split
  all_goals first | exact ⟨v, rfl, .inl rfl⟩ | exact ⟨.slice none 0 0, rfl, .inr rfl⟩
theorem sameE_at (e o : EvN) (v v' : Value) : sameE (e.at v) (o.at v') = sameE e o := rfl
theorem mayE_at (e : EvN) (v : Value) : mayE (e.at v) = mayE e := rfl
theorem rightE_at (e : EvN) (v : Value) : rightE (e.at v) = rightE e := by
  unfold rightE
  obtain ⟨v', h, _⟩ := bareE_at e v
  rw [h, sameE_at, mayE_at]
theorem lineE_at (e : EvN) (v : Value) : lineE (e.at v) = lineE e := by
  unfold lineE
  rw [rightE_at]
  rfl
/-- What right events have in common. -/
theorem rightE_iff {e : EvN} : rightE e = true ↔ mayE e = true ∧ sameE e (bareE e) = true := by unfold rightE; simp
theorem mayE_op {e : EvN} (h : mayE e = true) : 1 ≤ e.op ∧ e.op ≤ 14 := by
  unfold mayE at h
  by_cases h1 : e.op = 1
  · omega
  · rw [if_neg h1] at h
    by_cases h4 : e.op = 4
    · omega
    · rw [if_neg h4] at h
      by_cases h2 : e.op = 2
      · omega
      · rw [if_neg h2] at h
        by_cases h3 : e.op = 3
        · omega
        · rw [if_neg h3] at h
          by_cases h5 : e.op = 5
          · omega
          · rw [if_neg h5] at h
            by_cases h6 : e.op = 11 ∨ e.op = 12 ∨ e.op = 13
            · omega
            · rw [if_neg h6] at h
              by_cases h7 : e.op = 14
              · omega
              · rw [if_neg h7] at h
                exact of_decide_eq_true h
theorem nameN_facts : ∀ i : Fin 14, (opNames.getD i.1 []) ≠ [] ∧ (∀ x ∈ opNames.getD i.1 [], 32 ≤ x) ∧ opN (opNames.getD i.1 []) = i.1 + 1 := by decide +kernel
theorem nameN_at {n : Int} (h : 1 ≤ n ∧ n ≤ 14) : nameN n ≠ [] ∧ (∀ x ∈ nameN n, 32 ≤ x) ∧ ((opN (nameN n) : Nat) : Int) = n := by
  have e : nameN n = opNames.getD (n.toNat - 1) [] := if_pos h
  have h2 := nameN_facts ⟨n.toNat - 1, by omega⟩
  rw [e]
  exact ⟨h2.1, h2.2.1, by rw [h2.2.2]; show ((n.toNat - 1 + 1 : Nat) : Int) = n; omega⟩
theorem rightP_ge {l : List Nat} (h : rightP l = true) : ∀ x ∈ l, 32 ≤ x := by
  have key : ∀ l : List Nat, (∀ p ∈ splitP l, ∀ x ∈ p, 32 ≤ x) → ∀ x ∈ l, 32 ≤ x := by
    intro l
    induction l with
    | nil => intro _ x hx; cases hx
    | cons c r ih =>
      intro hp x hx
      by_cases e : c = 47
      · rw [splitP, if_pos e] at hp
        rcases List.mem_cons.1 hx with rfl | hx
        · omega
        · exact ih (fun p hp' => hp p (List.mem_cons_of_mem _ hp')) x hx
      · rw [splitP, if_neg e] at hp
        have h0 := hp _ (List.mem_cons_self ..)
        rcases List.mem_cons.1 hx with rfl | hx
        · exact h0 x (List.mem_cons_self ..)
        · refine ih (fun p hp' y hy => ?_) x hx
          rw [splitP_ht r] at hp'
          rcases List.mem_cons.1 hp' with rfl | hp'
          · exact h0 y (List.mem_cons_of_mem _ hy)
          · exact hp p (List.mem_cons_of_mem _ hp') y hy
  refine key l (fun p hp x hx => ?_)
  have h2 := rightP_part h p hp
  unfold partOk at h2
  simp only [Bool.and_eq_true, List.all_eq_true] at h2
  have h3 := h2.1.1.1.1.1 x hx
  simp at h3
  omega
theorem permTo_ge (m : Nat) : ∀ i, ∀ x ∈ permTo m i, 45 ≤ x
  | 0, x, h => by
    unfold permTo permBase at h
    simp only [List.mem_cons, List.not_mem_nil, or_false] at h
    omega
  | i + 1, x, h => by
    unfold permTo at h
    split at h
    · rcases List.mem_or_eq_of_mem_set h with h | h
      · exact permTo_ge m i x h
      · omega
    · exact permTo_ge m i x h
theorem joinC_ge (c B : Nat) (hc : B ≤ c) : ∀ (ps : List (List Nat)), (∀ p ∈ ps, ∀ x ∈ p, B ≤ x) → ∀ x ∈ joinC c ps, B ≤ x
  | [], _, x, h => by cases h
  | [p], h, x, hx => h p (by simp) x hx
  | p :: q :: r, h, x, hx => by
    rw [joinC] at hx
    rcases List.mem_append.1 hx with hx | hx
    · exact h p (by simp) x hx
    · rcases List.mem_cons.1 hx with rfl | hx
      · exact hc
      · exact joinC_ge c B hc (q :: r) (fun y hy => h y (List.mem_cons_of_mem _ hy)) x hx
theorem digP_ge (k n : Nat) : ∀ x ∈ digP n k, 45 ≤ x := fun x hx => by have := digP_dig k n x hx; omega
theorem text_ge {n : NodN} (h : nodeErr n.k n.m n.t n.D = 0) : ∀ x ∈ n.text, 32 ≤ x := by
  obtain ⟨k, m, t, D⟩ := n
  dsimp only at h
  have hne : ¬ nodeErr k m t D ≠ 0 := by rw [h]; decide
  intro x hx
  unfold NodN.text at hx
  rw [if_neg hne] at hx
  rcases nodeErr_zero h with ⟨rfl, _⟩ | ⟨rfl, _⟩ | ⟨rfl, _, _, hT, _⟩
  · rw [if_pos rfl] at hx; simp at hx; omega
  · have e2 : ¬ (2 : Int) = 0 := by decide
    dsimp only at hx
    rw [if_neg e2, if_pos rfl] at hx
    rcases List.mem_append.1 hx with h | h
    · simp at h; omega
    · have := permTo_ge _ 9 x h; omega
  · have e2 : ¬ (1 : Int) = 0 := by decide
    have e3 : ¬ (1 : Int) = 2 := by decide
    have e4 := fileW_five ⟨1, m, t, D⟩ hT
    dsimp only at hx
    rw [if_neg e2, if_neg e3, e4] at hx
    clear e4
    refine joinC_ge 32 32 (Nat.le_refl _) _ (fun p hp y hy => ?_) x hx
    unfold fileW5 at hp
    simp only [List.mem_cons, List.not_mem_nil, or_false] at hp
    rcases hp with rfl | rfl | rfl | rfl | rfl
    · simp only [List.mem_cons, List.not_mem_nil, or_false] at hy; omega
    · have := permTo_ge _ 9 y hy; omega
    · simp only [List.mem_append, List.mem_singleton] at hy
      rcases hy with (((h | h) | h) | h) | h
      · have := digP_ge _ _ y h; omega
      · omega
      · have := digP_ge _ _ y h; omega
      · omega
      · have := digP_ge _ _ y h; omega
    · simp only [List.mem_append, List.mem_singleton] at hy
      rcases hy with (((h | h) | h) | h) | h
      · have := digP_ge _ _ y h; omega
      · omega
      · have := digP_ge _ _ y h; omega
      · omega
      · have := digP_ge _ _ y h; omega
    · have := hexT_dig _ (bytesOf_lt D) y hy; omega
theorem foldZ_decL : ∀ (k n : Nat), n < 10 ^ k → foldZ (decL n) = (n : Int)
  | 0, n, h => by rw [decL_small n (by omega)]; simp [foldZ]; omega
  | k + 1, n, h => by
    by_cases h10 : n < 10
    · rw [decL_small n h10]; simp [foldZ]; omega
    · rw [decL_big n h10, foldZ_snoc, foldZ_decL k (n / 10) (by rw [Nat.pow_succ] at h; omega)]
      omega
theorem numZ_decZ {n : Int} (h1 : -1000000 < n) (h2 : n < 1000000) : numZ (decZ n) = n := by
  unfold numZ decZ
  by_cases h : n < 0
  · rw [if_pos h]
    have hl := decL_len 6 (-n).toNat (by omega)
    have hb : begM (45 :: decL (-n).toNat) = true := by unfold begM; simp
    rw [if_pos hb, List.drop_succ_cons, List.drop_zero, List.take_of_length_le (by omega), foldZ_decL 6 _ (by omega)]
    omega
  · rw [if_neg h]
    have hl := decL_len 6 n.toNat (by omega)
    have hd := decL_dig 6 n.toNat (by omega)
    have hb : begM (decL n.toNat) = false := by
      unfold begM
      apply decide_eq_false
      intro h
      have : 45 ∈ decL n.toNat := List.mem_of_mem_take (i := 1) (by rw [h]; simp)
      have := hd 45 this
      omega
    rw [if_neg (by rw [hb]; decide), List.take_of_length_le (by omega), foldZ_decL 6 _ (by omega)]
    omega
theorem decZ_ge {n : Int} (h1 : -1000000 < n) (h2 : n < 1000000) : ∀ x ∈ decZ n, 45 ≤ x := by
  intro x hx
  unfold decZ at hx
  split at hx
  · rcases List.mem_cons.1 hx with rfl | hx
    · omega
    · have := decL_dig 6 (-n).toNat (by omega) x hx; omega
  · have := decL_dig 6 n.toNat (by omega) x hx; omega
theorem decZ_ne (n : Int) : decZ n ≠ [] := by
  unfold decZ
  split
  · simp
  · rw [decL]
    split <;> simp
theorem listP_ge {l : List Int} (h : ∀ x ∈ l, 0 ≤ x ∧ x ≤ 1000) : ∀ x ∈ listP l, 32 ≤ x := by
  unfold listP
  split
  · intro x hx; simp at hx; omega
  · exact joinC_ge 44 32 (by omega) _ (fun p hp x hx => by
      obtain ⟨n, hn, rfl⟩ := List.mem_map.1 hp
      have := h n hn
      have := decZ_ge (n := n) (by omega) (by omega) x hx
      omega)
theorem joinC_head45 (p : List Nat) (ps : List (List Nat)) (hp : p ≠ []) (h : ∀ x ∈ p, 48 ≤ x) : joinC 44 (p :: ps) ≠ [45] := by
  obtain ⟨x, r, rfl⟩ := List.exists_cons_of_ne_nil hp
  have hx := h x (by simp)
  cases ps with
  | nil => intro e; simp [joinC] at e; omega
  | cons q t => intro e; simp [joinC] at e
theorem listP_back {l : List Int} (h : ∀ x ∈ l, 0 ≤ x ∧ x ≤ 1000) : (if listP l = [45] then [] else (splitC 44 (listP l)).map numZ) = l := by
  cases l with
  | nil => rfl
  | cons a l =>
    have e : listP (a :: l) = joinC 44 ((a :: l).map decZ) := by unfold listP; rw [if_neg (by simp)]
    have ha := h a (by simp)
    have hne : listP (a :: l) ≠ [45] := by
      rw [e, List.map_cons]
      refine joinC_head45 _ _ (decZ_ne a) (fun x hx => ?_)
      unfold decZ at hx
      rw [if_neg (by omega)] at hx
      exact (decL_dig 6 a.toNat (by omega) x hx).1
    rw [if_neg hne, e, splitC_join 44 _ (by simp) (fun p hp x hx => by
      obtain ⟨n, hn, rfl⟩ := List.mem_map.1 hp
      have := h n hn
      have := decZ_ge (n := n) (by omega) (by omega) x hx
      omega), List.map_map]
    conv => rhs; rw [← List.map_id (a :: l)]
    refine List.map_congr_left fun n hn => ?_
    have := h n hn
    exact numZ_decZ (by omega) (by omega)
/-- The words of a right event have no tab. -/
theorem argsE_ge {e : EvN} (h : mayE e = true) : ∀ p ∈ nameN e.op :: argsE e, ∀ x ∈ p, x ≠ 9 := by
  have hop := mayE_op h
  intro p hp x hx
  have key : 32 ≤ x → x ≠ 9 := fun h => by omega
  refine key ?_
  rcases List.mem_cons.1 hp with rfl | hp
  · exact (nameN_at hop).2.1 x hx
  · unfold argsE at hp
    unfold mayE at h
    by_cases h1 : e.op = 1
    · rw [if_pos h1] at h
      rw [if_pos (.inl h1)] at hp
      simp only [Bool.and_eq_true, decide_eq_true_eq] at h
      simp only [List.mem_cons, List.not_mem_nil, or_false] at hp
      rcases hp with rfl | rfl
      · exact rightP_ge h.1.1 x hx
      · exact text_ge (n := ⟨e.k, e.m, e.t, e.D⟩) h.1.2 x hx
    · rw [if_neg h1] at h
      by_cases h4 : e.op = 4
      · rw [if_pos h4] at h
        rw [if_pos (.inr h4)] at hp
        simp only [Bool.and_eq_true, decide_eq_true_eq] at h
        simp only [List.mem_cons, List.not_mem_nil, or_false] at hp
        rcases hp with rfl | rfl
        · exact rightP_ge h.1 x hx
        · exact text_ge (n := ⟨e.k, e.m, e.t, e.D⟩) h.2 x hx
      · rw [if_neg h4] at h
        rw [if_neg (by omega)] at hp
        by_cases h2 : e.op = 2
        · rw [if_pos h2] at h hp
          simp only [List.mem_cons, List.not_mem_nil, or_false] at hp
          rw [hp] at hx
          exact rightP_ge h x hx
        · rw [if_neg h2] at h hp
          by_cases h3 : e.op = 3
          · rw [if_pos h3] at h hp
            simp only [Bool.and_eq_true] at h
            simp only [List.mem_cons, List.not_mem_nil, or_false] at hp
            rcases hp with rfl | rfl
            · exact rightP_ge h.1 x hx
            · exact rightP_ge h.2 x hx
          · rw [if_neg h3] at h hp
            by_cases h5 : e.op = 5
            · rw [if_pos h5] at h hp
              have h := of_decide_eq_true h
              simp only [List.mem_cons, List.not_mem_nil, or_false] at hp
              rw [hp] at hx
              have hall : ∀ i : Fin 4, ∀ x ∈ polN (i.1 : Nat), 32 ≤ x := by decide +kernel
              have := hall ⟨e.n.toNat, by omega⟩ x (by rw [show ((e.n.toNat : Nat) : Int) = e.n by omega]; exact hx)
              exact this
            · rw [if_neg h5] at h hp
              by_cases h6 : e.op = 11 ∨ e.op = 12 ∨ e.op = 13
              · rw [if_pos h6] at h hp
                have h := of_decide_eq_true h
                simp only [List.mem_cons, List.not_mem_nil, or_false] at hp
                rw [hp] at hx
                have := decZ_ge (n := e.n) (by omega) (by omega) x hx
                omega
              · rw [if_neg h6] at h hp
                by_cases h7 : e.op = 14
                · rw [if_pos h7] at h hp
                  have h := of_decide_eq_true h
                  simp only [List.mem_cons, List.not_mem_nil, or_false] at hp
                  rw [hp] at hx
                  exact listP_ge h.2 x hx
                · rw [if_neg h7] at hp
                  cases hp
theorem joinC_ne {c : Nat} {p : List Nat} {ps : List (List Nat)} (h : p ≠ []) : joinC c (p :: ps) ≠ [] := by
  cases ps with
  | nil => exact h
  | cons q r => rw [joinC]; simp
/-- A right event is read from its line. -/
theorem read_back {e : EvN} (ht : e.t < 4294967296) (h : rightE e = true) : lineE e ≠ [] ∧ sameE (readE (lineE e)) e = true := by
  obtain ⟨hm, hs⟩ := rightE_iff.1 h
  have hop := mayE_op hm
  have hl : lineE e = joinC 9 (nameN e.op :: argsE e) := if_pos h
  have hsp : splitC 9 (lineE e) = nameN e.op :: argsE e := by rw [hl]; exact splitC_join 9 _ (by simp) (argsE_ge hm)
  refine ⟨by rw [hl]; exact joinC_ne (nameN_at hop).1, ?_⟩
  have hr : readE (lineE e) = bareE (fillE e.op (argsE e)) := by
    unfold readE
    rw [hsp, List.headD_cons, List.tail_cons, (nameN_at hop).2.2]
  rw [hr]
  clear hr hsp hl
  obtain ⟨op, p, q, k, m, t, D, n, v, l⟩ := e
  rw [sameE_iff] at hs
  dsimp only at *
  have hst : ∀ S : ByteArray, strOf (bytesOf S) = S := strOf_bytesOf
  have hcase : op = 1 ∨ op = 4 ∨ op = 2 ∨ op = 3 ∨ op = 5 ∨ (op = 11 ∨ op = 12 ∨ op = 13) ∨ op = 14 ∨ (op ≠ 1 ∧ op ≠ 4 ∧ op ≠ 2 ∧ op ≠ 3 ∧ op ≠ 5 ∧ op ≠ 11 ∧ op ≠ 12 ∧ op ≠ 13 ∧ op ≠ 14) := by omega
  rcases hcase with rfl | rfl | rfl | rfl | rfl | h6 | rfl | hx
  · have hn : nodeErr k m t D = 0 := by
      unfold mayE at hm; simp only [if_true] at hm
      simp only [Bool.and_eq_true, decide_eq_true_eq] at hm; exact hm.1.2
    have hno := (nod_ok (n := ⟨k, m, t, D⟩) ht).2 hn
    simp [bareE] at hs
    simp [argsE, fillE, bareE, sameE, hst, hno, hs]
  · have hn : nodeErr k m t D = 0 := by
      unfold mayE at hm; simp at hm; exact hm.2
    have hno := (nod_ok (n := ⟨k, m, t, D⟩) ht).2 hn
    simp [bareE] at hs
    simp [argsE, fillE, bareE, sameE, hst, hno, hs]
  · simp [bareE] at hs
    simp [argsE, fillE, bareE, sameE, hst, hs]
  · simp [bareE] at hs
    simp [argsE, fillE, bareE, sameE, hst, hs]
  · have hb : 0 ≤ n ∧ n ≤ 3 := by unfold mayE at hm; simpa using hm
    simp [bareE] at hs
    simp [argsE, fillE, bareE, sameE, hst, hs, polI_polN n hb]
  · have hb : -1 ≤ n ∧ n ≤ 100000 := by
      unfold mayE at hm
      rw [if_neg (by dsimp only; omega), if_neg (by dsimp only; omega), if_neg (by dsimp only; omega), if_neg (by dsimp only; omega), if_neg (by dsimp only; omega), if_pos h6] at hm
      exact of_decide_eq_true hm
    have hd := numZ_decZ (n := n) (by omega) (by omega)
    rcases h6 with rfl | rfl | rfl
    all_goals
      simp [bareE] at hs
      simp [argsE, fillE, bareE, sameE, hst, hs, hd]
  · have hb : ∀ x ∈ l, 0 ≤ x ∧ x ≤ 1000 := by
      unfold mayE at hm; simp at hm; exact hm.2
    have hd := listP_back hb
    simp [bareE] at hs
    simp [argsE, fillE, bareE, sameE, hst, hs]
    simpa using hd
  · obtain ⟨x1, x4, x2, x3, x5, x11, x12, x13, x14⟩ := hx
    simp [bareE, x1, x4, x2, x3, x5, x11, x12, x13, x14] at hs
    simp [argsE, fillE, bareE, sameE, hst, hs, x1, x4, x2, x3, x5, x11, x12, x13, x14]
theorem sameE_eq {e o : EvN} (h : sameE e o = true) : e.at (.slice none 0 0) = o.at (.slice none 0 0) := by
  obtain ⟨h1, h2, h3, h4, h5, h6, h7, h8, h9⟩ := sameE_iff.1 h
  unfold EvN.at
  rw [h1, h2, h3, h4, h5, h6, h7, h8, h9]
theorem line_back {e : EvN} (ht : e.t < 4294967296) : readOk (lineE e) = rightE e := by
  cases hr : rightE e with
  | true =>
    obtain ⟨h1, h2⟩ := read_back ht hr
    unfold readOk
    refine decide_eq_true ⟨h1, ?_⟩
    have h3 := sameE_eq h2
    have h4 := congrArg lineE h3
    rwa [lineE_at, lineE_at] at h4
  | false =>
    have e0 : lineE e = [] := if_neg (by rw [hr]; decide)
    unfold readOk
    exact decide_eq_false (fun h => h.1 e0)
theorem readOk_right {l : List Nat} (h : readOk l = true) : rightE (readE l) = true ∧ lineE (readE l) = l := by
  obtain ⟨h1, h2⟩ := of_decide_eq_true h
  refine ⟨?_, h2⟩
  cases hr : rightE (readE l) with
  | true => rfl
  | false =>
    have e0 : lineE (readE l) = [] := if_neg (by rw [hr]; decide)
    rw [e0] at h2
    exact absurd h2.symm h1
theorem fillE_lt (o : Int) (w : List (List Nat)) : (fillE o w).t < 4294967296 := by
  unfold fillE
  split
  · exact Nat.zero_lt_succ _
  · exact nodN_lt _
theorem bareE_lt {e : EvN} (h : e.t < 4294967296) : (bareE e).t < 4294967296 := by
  unfold bareE
  repeat' split
  all_goals first | exact h | exact Nat.zero_lt_succ _
theorem readE_lt (l : List Nat) : (readE l).t < 4294967296 := bareE_lt (fillE_lt _ _)
end Go.Proofs.YtigjingielnaoaaGreatDoor

/- Package script: number: its walk. -/
import Derived.Test.YtigjingielnaoaaDoorQAV
import Derived.Test.YtigjingielnaoaaDoorQAL
import Derived.Test.YtigjingielnaoaaDoorScLv
import Derived.Test.YtigjingielnaoaaDoorSBare
namespace Go.Proofs.YtigjingielnaoaaDoor
set_option linter.unusedVariables false
set_option linter.unusedSimpArgs false
set_option linter.unusedSectionVars false
open Go.RowKit
set_option linter.unusedVariables false
set_option linter.unusedSimpArgs false

def foldZ (l : List Nat) : Int := l.foldl (fun (n : Int) (c : Nat) => 10 * n + (c : Int) - 48) (0 : Int)
theorem foldZ_snoc (l : List Nat) (c : Nat) : foldZ (l ++ [c]) = 10 * foldZ l + (c : Int) - 48 := by unfold foldZ; rw [List.foldl_append]; rfl
theorem foldZ_bd : ∀ (n : Nat) (l : List Nat), l.length = n → (∀ x ∈ l, x < 256) → -(23 * ((10 ^ n : Nat) : Int) - 23) ≤ foldZ l ∧ foldZ l ≤ 23 * ((10 ^ n : Nat) : Int) - 23
  | 0, l, h, _ => by rw [List.eq_nil_of_length_eq_zero h]; simp [foldZ]
  | n + 1, l, h, hx => by
    rcases List.eq_nil_or_concat l with rfl | ⟨L, c, rfl⟩
    · simp at h
    · rw [List.concat_eq_append] at h hx ⊢
      have ih := foldZ_bd n L (by simp at h; exact h) (fun x h => hx x (List.mem_append_left _ h))
      have hc := hx c (by simp)
      rw [foldZ_snoc, Nat.pow_succ]
      have e : ((10 ^ n * 10 : Nat) : Int) = 10 * ((10 ^ n : Nat) : Int) := by rw [Nat.mul_comm]; simp
      rw [e]
      generalize ((10 ^ n : Nat) : Int) = p at *
      omega
theorem foldZ_bd9 (l : List Nat) (h : l.length ≤ 9) (hx : ∀ x ∈ l, x < 256) : -23000000000 < foldZ l ∧ foldZ l < 23000000000 := by
  have h1 := foldZ_bd l.length l rfl hx
  have h2 : 10 ^ l.length ≤ 10 ^ 9 := Nat.pow_le_pow_right (by omega) h
  generalize 10 ^ l.length = p at *
  omega
/-- A number in decimal, with a sign; whatever of others. -/
def numZ (l : List Nat) : Int := if begM l = true then -(foldZ ((l.drop 1).take 9)) else foldZ (l.take 9)
set_option maxRecDepth 100000 in
set_option maxHeartbeats 3200000 in
theorem snum_any (S : ByteArray) (w : World) (hs : S.size ≤ 9223372036854775807) : Calls Tryd.prog 85 #[.string S] w fun e w' => e = .returned (.int .i64 (numZ (bytesOf S))) ∧ Upd [] w w' := by
  have HT := Lib.hid (fun w => trimM_any S w hs)
  obtain ⟨T, hT⟩ : ∃ T, trimM S = T := ⟨_, rfl⟩
  have HV : Hid ((T.size < S.size ∧ numZ (bytesOf S) = -(foldZ ((bytesOf T).take 9))) ∨ (T.size = S.size ∧ numZ (bytesOf S) = foldZ ((bytesOf T).take 9))) := Lib.hid (by
    rw [← hT]
    unfold trimM numZ
    cases hb : begM (bytesOf S) with
    | true =>
      have h1 := begM_pos hb
      rw [length_bytesOf] at h1
      left
      rw [if_pos rfl, if_pos rfl, bytesOf_drop, ByteArray.size_extract]
      exact ⟨by omega, rfl⟩
    | false => right; rw [if_neg (by decide), if_neg (by decide)]; exact ⟨rfl, rfl⟩)
  rw [hT] at HT
  have hTs : T.size ≤ 9223372036854775807 := by rcases HV.out with h | h <;> omega
  clear hT
  obtain ⟨m, hm⟩ : ∃ m, m = min T.size 9 := ⟨_, rfl⟩
  have e1 : min (T.size : Int) 9 = (m : Int) := by omega
  have HL : Hid (m ≤ T.size ∧ m ≤ 9) := Lib.hid (by omega)
  have HTK : Hid ((bytesOf T).take m = (bytesOf T).take 9) := Lib.hid (by
    rw [hm]
    by_cases h : T.size ≤ 9
    · rw [Nat.min_eq_left h, List.take_of_length_le (by rw [length_bytesOf]; exact Nat.le_refl _), List.take_of_length_le (by rw [length_bytesOf]; omega)]
    · rw [Nat.min_eq_right (by omega)])
  clear hm
  go_enter Tryd.func85, Tryd.ntmps85
  go_wp2_with fail
  refine (HT.out _).mono ?_
  rintro e w1 ⟨rfl, rfl⟩
  go_wp2
  go_loopg [2, 10] m (fun gg s2 s10 wr => ∃ (i : Nat) (n : Int), i ≤ m ∧ gg = m - i ∧ s10 = .int .i64 (i : Nat) ∧ s2 = .int .i64 n ∧ Hid (n = foldZ ((bytesOf T).take i)) ∧ -23000000000 < n ∧ n < 23000000000 ∧ Hid (Upd [] w wr))
  case atStart => exact ⟨0, 0, Nat.zero_le _, rfl, rfl, rfl, Lib.hid rfl, by omega, by omega, Lib.hid (Upd.refl _ _)⟩
  case round =>
    obtain ⟨i, n, hin, rfl, rfl, rfl, HM, hn1, hn2, HU⟩ := hrel
    by_cases hc : i < m
    · have hcz : (i : Int) < (m : Int) := by omega
      have hl := HL.out
      have hci : i < T.size := by omega
      have hil : i < (bytesOf T).length := by rw [length_bytesOf]; exact hci
      have HG : foldZ ((bytesOf T).take (i + 1)) = 10 * n + ((T[i].toNat : Nat) : Int) - 48 := by
        rw [List.take_succ_eq_append_getElem hil, foldZ_snoc, ← HM.out, bytesOf_get T i hci]
      have hbd := foldZ_bd9 ((bytesOf T).take (i + 1)) (by rw [List.length_take]; omega) (fun x hx => bytesOf_lt T x (List.mem_of_mem_take hx))
      have hbl : T[i].toNat < 256 := T[i].toNat_lt
      have HGG := Lib.hid HG
      rw [HG] at hbd
      have hb1 := hbd.1
      have hb2 := hbd.2
      have hw0 : IntKind.i64.wrap (10 * n) = 10 * n := IntWalk.i64_in _ (by omega)
      have hw1 : IntKind.i64.wrap (10 * n + ((T[i].toNat : Nat) : Int)) = 10 * n + ((T[i].toNat : Nat) : Int) := IntWalk.i64_in _ (by omega)
      have hw2 : IntKind.i64.wrap (10 * n + ((T[i].toNat : Nat) : Int) - 48) = 10 * n + ((T[i].toNat : Nat) : Int) - 48 := IntWalk.i64_in _ (by omega)
      clear HG HM hbd hl
      go_wp2
      go_roundg (m - (i + 1))
      · exact ⟨i + 1, 10 * n + ((T[i].toNat : Nat) : Int) - 48, by omega, rfl, by first | rfl | go_num, by first | rfl | go_num, Lib.hid HGG.out.symm, hb1, hb2, HU⟩
      · omega
    · have hcz : ¬ (i : Int) < (m : Int) := by omega
      obtain rfl : i = m := by omega
      have HM2 : Hid (n = foldZ ((bytesOf T).take 9)) := Lib.hid (by rw [HM.out, HTK.out])
      rcases HV.out with ⟨h1, h2⟩ | ⟨h1, h2⟩
      · have hz1 : (T.size : Int) < (S.size : Int) := by omega
        have hwn : IntKind.i64.wrap (-n) = -n := IntWalk.i64_in _ (by omega)
        have HR : Hid (numZ (bytesOf S) = -n) := Lib.hid (by rw [h2, HM2.out])
        clear h2
        go_wp2
        go_ret
        exact ⟨by rw [HR.out]; rfl, HU.out⟩
      · have hz1 : ¬ (T.size : Int) < (S.size : Int) := by omega
        have hz2 : ¬ T.size < S.size := by omega
        have HR : Hid (numZ (bytesOf S) = n) := Lib.hid (by rw [h2, HM2.out])
        clear h2 h1
        go_wp2
        go_ret
        exact ⟨by rw [HR.out]; rfl, HU.out⟩
end Go.Proofs.YtigjingielnaoaaDoor
namespace Go.Proofs.YtigjingielnaoaaDoor
set_option linter.unusedVariables false
set_option linter.unusedSimpArgs false
set_option linter.unusedSectionVars false
open Go.RowKit
attribute [local go_sem] Oper.semAt_some
set_option linter.unusedVariables false
set_option linter.unusedSimpArgs false

/-- The name of a step. -/
def nameN (n : Int) : List Nat := if 1 ≤ n ∧ n ≤ 14 then opNames.getD (n.toNat - 1) [] else []
set_option maxRecDepth 100000 in
set_option maxHeartbeats 3200000 in
theorem sname_any (n : Int) (w : World) : Calls Tryd.prog 74 #[.int .i64 n] w fun e w' => e = .returned (.string (strOf (nameN n))) ∧ w' = w := by
  by_cases h1 : n < 1
  · have HV : Hid (nameN n = []) := Lib.hid (if_neg (by omega))
    go_enter Tryd.func74, Tryd.ntmps74
    go_wp2
    go_ret
    exact ⟨by rw [HV.out]; rfl, rfl⟩
  · by_cases h2 : 14 < n
    · have HV : Hid (nameN n = []) := Lib.hid (if_neg (by omega))
      go_enter Tryd.func74, Tryd.ntmps74
      go_wp2
      go_ret
      exact ⟨by rw [HV.out]; rfl, rfl⟩
    · obtain ⟨i, hi, rfl⟩ : ∃ i : Nat, i < 14 ∧ n = (i : Int) + 1 := ⟨(n - 1).toNat, by omega, by omega⟩
      have hix := run_indexAggS (P := Tryd.prog) 120 9 14 Tryd.underlying120 Tryd.underlying9 (by kernel_rfl) (opNames.map fun p => .string (strOf p)) rfl .i64 i hi w
      have e : (opNames.map fun p => (Value.string (strOf p))).toArray = #[.string ⟨#[112, 117, 116]⟩, .string ⟨#[99, 108, 101, 97, 114]⟩, .string ⟨#[114, 101, 110, 97, 109, 101]⟩, .string ⟨#[101, 100, 105, 116]⟩, .string ⟨#[115, 121, 110, 99]⟩, .string ⟨#[112, 97, 99, 107]⟩, .string ⟨#[117, 110, 112, 97, 99, 107]⟩, .string ⟨#[99, 111, 109, 112, 97, 99, 116]⟩, .string ⟨#[118, 101, 114, 105, 102, 121]⟩, .string ⟨#[115, 116, 97, 116, 117, 115]⟩, .string ⟨#[112, 111, 119, 101, 114]⟩, .string ⟨#[102, 97, 105, 108]⟩, .string ⟨#[108, 105, 109, 105, 116]⟩, .string ⟨#[114, 101, 99, 111, 118, 101, 114]⟩] := rfl
      rw [e] at hix
      have e2 : (opNames.map fun p => (Value.string (strOf p))).getD i undef = .string (strOf (nameN ((i : Int) + 1))) := by
        unfold nameN
        rw [if_pos (by omega)]
        have hl : i < opNames.length := hi
        rw [List.getD_eq_getElem?_getD, List.getElem?_map, List.getElem?_eq_getElem hl, List.getD_eq_getElem?_getD, show ((i : Int) + 1).toNat - 1 = i by omega, List.getElem?_eq_getElem hl]
        rfl
      rw [e2] at hix
      clear e e2
      generalize strOf (nameN ((i : Int) + 1)) = RR at *
      have hw1 : IntKind.i64.wrap ((i : Int) + 1 - 1) = (i : Int) := by rw [IntWalk.i64_in _ (by omega)]; omega
      go_enter Tryd.func74, Tryd.ntmps74
      go_wp2
      go_ret
      exact ⟨rfl, rfl⟩
end Go.Proofs.YtigjingielnaoaaDoor
namespace Go.Proofs.YtigjingielnaoaaDoor
set_option linter.unusedVariables false
set_option linter.unusedSimpArgs false
set_option linter.unusedSectionVars false
open Go.RowKit
set_option linter.unusedVariables false
set_option linter.unusedSimpArgs false

/-- The step of a name; 0: there is none. -/
def opN (l : List Nat) : Nat := ((List.range 14).find? fun (i : Nat) => decide (nameN ((i : Int) + 1) = l)).elim 0 (· + 1)
theorem opN_at {l : List Nat} {i : Nat} (hi : i < 14) (h : nameN ((i : Int) + 1) = l) (hn : ∀ j : Nat, j < i → nameN ((j : Int) + 1) ≠ l) : opN l = i + 1 := by
  have : (List.range 14).find? (fun (i : Nat) => decide (nameN ((i : Int) + 1) = l)) = some i := by
    rw [List.find?_range_eq_some]
    exact ⟨decide_eq_true h, by simpa using hi, fun j hj => by simpa using hn j hj⟩
  unfold opN
  rw [this]
  rfl
theorem opN_no {l : List Nat} (hn : ∀ j : Nat, j < 14 → nameN ((j : Int) + 1) ≠ l) : opN l = 0 := by
  have : (List.range 14).find? (fun (i : Nat) => decide (nameN ((i : Int) + 1) = l)) = none := by
    rw [List.find?_eq_none]
    intro j hj
    have := hn j (by simpa using hj)
    simpa using this
  unfold opN
  rw [this]
  rfl
theorem nameN_lt (n : Int) : ∀ x ∈ nameN n, x < 256 := by
  intro x hx
  unfold nameN at hx
  split at hx
  · rename_i h
    have hall : ∀ i : Fin 14, ∀ x ∈ opNames.getD i.1 [], x < 256 := by decide +kernel
    exact hall ⟨n.toNat - 1, by omega⟩ x hx
  · cases hx
set_option maxRecDepth 100000 in
set_option maxHeartbeats 3200000 in
theorem sop_any (S : ByteArray) (w : World) : Calls Tryd.prog 49 #[.string S] w fun e w' => e = .returned (.int .i64 (opN (bytesOf S) : Nat)) ∧ w' = w := by
  have HE := Lib.hid (fun n : Int => strOf_eqS (nameN n) S (nameN_lt n))
  generalize bytesOf S = l at *
  go_enter Tryd.func49, Tryd.ntmps49
  go_wp2
  go_loopg [3] 14 (fun gg s3 wr => ∃ i : Nat, i ≤ 14 ∧ gg = 14 - i ∧ s3 = .int .i64 ((i : Int) + 1) ∧ Hid (∀ j : Nat, j < i → nameN ((j : Int) + 1) ≠ l) ∧ wr = w)
  case atStart => exact ⟨0, by omega, rfl, rfl, Lib.hid (fun j hj => by omega), rfl⟩
  case round =>
    obtain ⟨i, hin, rfl, rfl, HN, rfl⟩ := hrel
    by_cases hc : i < 14
    · have hcz : (i : Int) + 1 ≤ 14 := by omega
      have hw1 : IntKind.i64.wrap ((i : Int) + 1 + 1) = (i : Int) + 1 + 1 := IntWalk.i64_in _ (by omega)
      have HX := Lib.hid (fun w => sname_any ((i : Int) + 1) w)
      have heq := HE.out ((i : Int) + 1)
      by_cases hq : nameN ((i : Int) + 1) = l
      · have HV := Lib.hid (opN_at hc hq HN.out)
        rw [decide_eq_true hq] at heq
        clear hq
        go_wp2_with fail
        refine (HX.out _).mono ?_
        rintro e w1 ⟨rfl, hw1⟩
        subst hw1
        go_wp2
        go_ret
        exact ⟨by rw [HV.out]; rfl, rfl⟩
      · have HN2 : Hid (∀ j : Nat, j < i + 1 → nameN ((j : Int) + 1) ≠ l) := Lib.hid (fun j hj => by
          rcases Nat.lt_or_ge j i with h | h
          · exact HN.out j h
          · rw [show j = i by omega]; exact hq)
        rw [decide_eq_false hq] at heq
        clear hq
        go_wp2_with fail
        refine (HX.out _).mono ?_
        rintro e w1 ⟨rfl, hw1⟩
        subst hw1
        go_wp2
        go_roundg (14 - (i + 1))
        · exact ⟨i + 1, by omega, rfl, by first | rfl | go_num, HN2, rfl⟩
        · omega
    · have hcz : ¬ (i : Int) + 1 ≤ 14 := by omega
      have HV := Lib.hid (opN_no (l := l) (fun j hj => HN.out j (by omega)))
      go_wp2
      go_ret
      exact ⟨by rw [HV.out]; rfl, rfl⟩
end Go.Proofs.YtigjingielnaoaaDoor
namespace Go.Proofs.YtigjingielnaoaaDoor
set_option linter.unusedVariables false
set_option linter.unusedSimpArgs false
set_option linter.unusedSectionVars false
open Go.RowKit
set_option linter.unusedVariables false
set_option linter.unusedSimpArgs false

/-- The names of the policies. -/
def polNames : List (List Nat) := [[115, 107, 105, 112], [108, 101, 102, 116], [114, 105, 103, 104, 116], [110, 101, 119, 101, 114]]
def polN (n : Int) : List Nat := if 0 ≤ n ∧ n ≤ 3 then polNames.getD n.toNat [] else []
/-- The policy of a name; -1: there is none. -/
def polI (l : List Nat) : Int := if polN 0 = l then 0 else if polN 1 = l then 1 else if polN 2 = l then 2 else if polN 3 = l then 3 else -1
/-- May what plays a part be? -/
def mayE (e : EvN) : Bool :=
  if e.op = 1 then rightP (bytesOf e.p) && decide (nodeErr e.k e.m e.t e.D = 0) && decide (e.k ≠ 0)
  else if e.op = 4 then rightP (bytesOf e.p) && decide (nodeErr e.k e.m e.t e.D = 0)
  else if e.op = 2 then rightP (bytesOf e.p)
  else if e.op = 3 then rightP (bytesOf e.p) && rightP (bytesOf e.q)
  else if e.op = 5 then decide (0 ≤ e.n ∧ e.n ≤ 3)
  else if e.op = 11 ∨ e.op = 12 ∨ e.op = 13 then decide (-1 ≤ e.n ∧ e.n ≤ 100000)
  else if e.op = 14 then decide (e.l.length ≤ 50 ∧ ∀ x ∈ e.l, 0 ≤ x ∧ x ≤ 1000)
  else decide (1 ≤ e.op ∧ e.op ≤ 14)
def rightE (e : EvN) : Bool := mayE e && sameE e (bareE e)
/-- The words of a line behind the step's name. -/
def argsE (e : EvN) : List (List Nat) :=
  if e.op = 1 ∨ e.op = 4 then [bytesOf e.p, (NodN.mk e.k e.m e.t e.D).text]
  else if e.op = 2 then [bytesOf e.p]
  else if e.op = 3 then [bytesOf e.p, bytesOf e.q]
  else if e.op = 5 then [polN e.n]
  else if e.op = 11 ∨ e.op = 12 ∨ e.op = 13 then [decZ e.n]
  else if e.op = 14 then [listP e.l]
  else []
/-- An event's line. -/
def lineE (e : EvN) : List Nat := if rightE e = true then joinC 9 (nameN e.op :: argsE e) else []
/-- An event with all that words may say. -/
def fillE (o : Int) (w : List (List Nat)) : EvN :=
  if w = [] then ⟨o, ⟨#[]⟩, ⟨#[]⟩, 0, 0, 0, ⟨#[]⟩, 0, .slice none 0 0, []⟩
  else ⟨o, strOf (w.headD []), strOf (w.getLastD []), (nodN (w.getLastD [])).k, (nodN (w.getLastD [])).m, (nodN (w.getLastD [])).t, (nodN (w.getLastD [])).D,
    if o = 5 then polI (w.getLastD []) else numZ (w.getLastD []), .slice none 0 0, if w.getLastD [] = [45] then [] else (splitC 44 (w.getLastD [])).map numZ⟩
def readE (l : List Nat) : EvN := bareE (fillE (opN ((splitC 9 l).headD [])) (splitC 9 l).tail)
def readOk (l : List Nat) : Bool := decide (l ≠ [] ∧ lineE (readE l) = l)
def EvN.no : EvN := ⟨0, ⟨#[]⟩, ⟨#[]⟩, 0, 0, 0, ⟨#[]⟩, 0, .slice none 0 0, []⟩
def readR (l : List Nat) : EvN := if readOk l = true then readE l else EvN.no
/-- The event with its numbers elsewhere. -/
def EvN.at (e : EvN) (v : Value) : EvN := ⟨e.op, e.p, e.q, e.k, e.m, e.t, e.D, e.n, v, e.l⟩
theorem sameE_refl (e : EvN) : sameE e e = true := by unfold sameE; simp
theorem bareE_at (e : EvN) (v : Value) : ∃ v', bareE (e.at v) = (bareE e).at v' ∧ (v' = v ∨ v' = (bareE e).v) := by
  unfold bareE EvN.at
  dsimp only
  repeat' split
  all_goals first | exact ⟨v, rfl, .inl rfl⟩ | exact ⟨.slice none 0 0, rfl, .inr rfl⟩
theorem sameE_at (e o : EvN) (v v' : Value) : sameE (e.at v) (o.at v') = sameE e o := rfl
theorem mayE_at (e : EvN) (v : Value) : mayE (e.at v) = mayE e := rfl
theorem rightE_at (e : EvN) (v : Value) : rightE (e.at v) = rightE e := by
  unfold rightE
  obtain ⟨v', h, _⟩ := bareE_at e v
  rw [h, sameE_at, mayE_at]
theorem lineE_at (e : EvN) (v : Value) : lineE (e.at v) = lineE e := by
  unfold lineE
  rw [rightE_at]
  rfl
/-- What right events have in common. -/
theorem rightE_iff {e : EvN} : rightE e = true ↔ mayE e = true ∧ sameE e (bareE e) = true := by unfold rightE; simp
theorem mayE_op {e : EvN} (h : mayE e = true) : 1 ≤ e.op ∧ e.op ≤ 14 := by
  unfold mayE at h
  by_cases h1 : e.op = 1
  · omega
  · rw [if_neg h1] at h
    by_cases h4 : e.op = 4
    · omega
    · rw [if_neg h4] at h
      by_cases h2 : e.op = 2
      · omega
      · rw [if_neg h2] at h
        by_cases h3 : e.op = 3
        · omega
        · rw [if_neg h3] at h
          by_cases h5 : e.op = 5
          · omega
          · rw [if_neg h5] at h
            by_cases h6 : e.op = 11 ∨ e.op = 12 ∨ e.op = 13
            · omega
            · rw [if_neg h6] at h
              by_cases h7 : e.op = 14
              · omega
              · rw [if_neg h7] at h
                exact of_decide_eq_true h
theorem nameN_facts : ∀ i : Fin 14, (opNames.getD i.1 []) ≠ [] ∧ (∀ x ∈ opNames.getD i.1 [], 32 ≤ x) ∧ opN (opNames.getD i.1 []) = i.1 + 1 := by decide +kernel
theorem nameN_at {n : Int} (h : 1 ≤ n ∧ n ≤ 14) : nameN n ≠ [] ∧ (∀ x ∈ nameN n, 32 ≤ x) ∧ ((opN (nameN n) : Nat) : Int) = n := by
  have e : nameN n = opNames.getD (n.toNat - 1) [] := if_pos h
  have h2 := nameN_facts ⟨n.toNat - 1, by omega⟩
  rw [e]
  exact ⟨h2.1, h2.2.1, by rw [h2.2.2]; show ((n.toNat - 1 + 1 : Nat) : Int) = n; omega⟩
theorem fillE_lt (o : Int) (w : List (List Nat)) : (fillE o w).t < 4294967296 := by
  unfold fillE
  split
  · exact Nat.zero_lt_succ _
  · exact nodN_lt _
theorem bareE_lt {e : EvN} (h : e.t < 4294967296) : (bareE e).t < 4294967296 := by
  unfold bareE
  repeat' split
  all_goals first | exact h | exact Nat.zero_lt_succ _
theorem readE_lt (l : List Nat) : (readE l).t < 4294967296 := bareE_lt (fillE_lt _ _)
end Go.Proofs.YtigjingielnaoaaDoor

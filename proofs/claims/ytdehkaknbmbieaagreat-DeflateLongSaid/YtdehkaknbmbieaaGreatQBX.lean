/- Package deflate: Of, Stored, Most: their walks; what they lay is read. -/
import Derived.Test.YtdehkaknbmbieaaGreatLzM
import Derived.Test.YtdehkaknbmbieaaGreatQBM
import Derived.Test.YtdehkaknbmbieaaGreatQBW
import Derived.Lib.MinMax
import Derived.Test.YtdehkaknbmbieaaGreatQAS
import Derived.Test.YtdehkaknbmbieaaGreatQBS
import Derived.Test.YtdehkaknbmbieaaGreatQBV
import Derived.Test.YtdehkaknbmbieaaGreatQBN
import Derived.Test.YtdehkaknbmbieaaGreatQBB
import Derived.Test.YtdehkaknbmbieaaGreatQBU
namespace Go.Proofs.YtdehkaknbmbieaaGreat
set_option linter.unusedVariables false
set_option linter.unusedSimpArgs false
set_option linter.unusedSectionVars false
open Go.RowKit
attribute [local go_sem] Oper.semAt_some
set_option linter.unusedVariables false
set_option linter.unusedSimpArgs false

theorem Row.cap {w : World} {e : TypeId} {size n n' c : Nat} {a : Option Addr} {xs : List Value} (h : Row w e size (.slice a n' c) n xs) : c ≤ 9223372036854775807 := by
  rcases h.2 with ⟨hv, h0⟩ | ⟨g, cap, cur, hv, hb, hg, hc, hm, _⟩
  · cases hv; omega
  · cases hv; unfold maxLen at hm; omega
/-- What is read again of X. -/
def BackP (S X : ByteArray) : Prop := ∀ most : Int, S.size ≤ capI most → ofP X most = .ok (bytesOf S, 8 * X.size) ∨ ∃ m : Nat, ofP X most = .ok (bytesOf S, m) ∧ (m + 7) / 8 = X.size
theorem BackP.val {S X : ByteArray} (h : BackP S X) (most : Int) (hm : S.size ≤ capI most) : ofVal (ofP X most) = .tuple #[.string S, .int .i64 (X.size : Nat), .int .i64 0] := by
  rcases h most hm with e | ⟨m, e, hx⟩
  · rw [e]
    show Value.tuple #[.string (strOf (bytesOf S)), .int .i64 (((8 * X.size + 7) / 8 : Nat) : Int), .int .i64 0] = _
    rw [strOf_bytesOf, show (8 * X.size + 7) / 8 = X.size by omega]
  · rw [e]
    show Value.tuple #[.string (strOf (bytesOf S)), .int .i64 (((m + 7) / 8 : Nat) : Int), .int .i64 0] = _
    rw [strOf_bytesOf, hx]
theorem rt_back {S : ByteArray} {l : List Tok} {KK : List Tok → Nat → Prop} (hS : S.size ≤ 65000) (hok : ∀ t ∈ l, okTok t) (he : expTo l [] = some (bytesOf S)) {M : List Bool} (h : RT (bytesOf S) l KK (rowsN l.length) M) : BackP S (strOf (pack M)) := fun most hm =>
  .inr ⟨M.length, laid_back hok (bytesOf_lt S) (by rw [length_bytesOf]; exact hS) he h most (by rw [length_bytesOf]; exact hm), (size_pack M).symm⟩
theorem rowsN_mono {a b : Nat} (h : a ≤ b) : rowsN a ≤ rowsN b := by unfold rowsN; split <;> split <;> omega
/-- What deflate.Of gives. -/
def DOfP (S : ByteArray) (w : World) (e : Ending) (w' : World) : Prop := ∃ X : ByteArray, e = .returned (.string X) ∧ BackP S X ∧ X.size ≤ S.size + 6 * rowsN S.size ∧ (S.size ≤ 8000 → X.size ≤ S.size + 5) ∧ Upd [] w w'
theorem exp_size {S : ByteArray} {l : List Tok} (hok : ∀ t ∈ l, okTok t) (he : expTo l [] = some (bytesOf S)) : S.size = expLen l := by
  have h := exp_length l [] _ hok he
  rw [length_bytesOf, List.length_nil, Nat.zero_add] at h
  exact h
theorem dof_end {S : ByteArray} {l : List Tok} {M : List Bool} (hS : S.size ≤ 65000) (hok : ∀ t ∈ l, okTok t) (he : expTo l [] = some (bytesOf S)) (hl : l.length ≤ S.size) (h : RT (bytesOf S) l BestK (rowsN l.length) M) :
    (strOf (pack M)).size ≤ S.size + 6 * rowsN S.size ∧ (S.size ≤ 8000 → (strOf (pack M)).size ≤ S.size + 5) := by
  have hs := exp_size hok he
  have h1 := laid_len hok (by rw [length_bytesOf]; exact hS) h
  rw [rowsB_all] at h1
  have h2 := rowsN_mono hl
  have h3 := rowsN_pos S.size
  have h4 := rowsN_pos l.length
  rw [size_pack]
  refine ⟨by omega, fun hx => ?_⟩
  have h5 : rowsN l.length = 1 := by
    have : rowsN S.size = 1 := by unfold rowsN; split <;> omega
    omega
  have := h1.2 h5
  omega
set_option maxRecDepth 100000 in
set_option maxHeartbeats 3200000 in
theorem dof_any (S : ByteArray) (lv : Int) (w : World) (hs : S.size ≤ 65000) (hlv : -9223372036854775808 ≤ lv ∧ lv ≤ 9223372036854775807) :
    Calls Tryz.prog 16 #[.string S, .int .i64 lv] w fun e w' => DOfP S w e w' := by
  have hsz : ¬ (65000 : Int) < (S.size : Int) := by omega
  go_enter Tryz.func16, Tryz.ntmps16
  go_wp2_with fail
  refine (lzmatch_any S lv _ hs hlv).mono ?_
  rintro e w1 ⟨v, l, rfl, hR, hok, he, hl, hO, hU1⟩
  obtain ⟨a, c, rfl, hT, -, ha, hc⟩ := TokIn.of_row hR (fun t ht => by
    have := hok t ht
    unfold okTok at this
    omega)
  have HU1 := Lib.hid hU1
  have HE := Lib.hid he
  have HOK := Lib.hid hok
  have HL := Lib.hid hl
  have HLD := Lib.hid (laid_any S l a l.length c 38 BestK w1 hT ha hc hR.cap (exp_size hok he) hs hok best_kind best_enters)
  clear hU1 hR hO hT ha he hok hl
  go_wp2_with fail
  refine HLD.out.mono ?_
  rintro e w2 ⟨M, hM, rfl, hU2⟩
  have HU2 := Lib.hid (HU1.out.then hU2)
  have HM := Lib.hid hM
  clear hM hU2 HLD
  go_wp2
  go_ret
  have hd := dof_end hs HOK.out HE.out HL.out HM.out
  exact ⟨_, rfl, rt_back hs HOK.out HE.out HM.out, hd.1, hd.2, HU2.out⟩
theorem dof_long (S : ByteArray) (lv : Int) (w : World) (hs : 65000 < S.size) :
    Calls Tryz.prog 16 #[.string S, .int .i64 lv] w fun e w' => e = .returned (.string ⟨#[]⟩) ∧ w' = w := by
  have hsz : (65000 : Int) < (S.size : Int) := by omega
  go_enter Tryz.func16, Tryz.ntmps16
  go_wp2
  go_ret
  exact ⟨rfl, rfl⟩
theorem stored_kind : KindOk 36 (fun _ k => k = 0) := fun r a n c w hI hn hok => by
  go_enter Tryz.func36, Tryz.ntmps36
  go_wp2
  go_ret
  exact ⟨0, rfl, by omega, rfl, Upd.refl _ _⟩
theorem stored_enters : ∀ args w, (callFunc 36 args).run Tryz.prog w = .ok (.enter 36 args) w := enters_of Tryz.func36 (by kernel_rfl) rfl
/-- What deflate.Stored gives. -/
def DStP (S : ByteArray) (w : World) (e : Ending) (w' : World) : Prop := ∃ X : ByteArray, e = .returned (.string X) ∧ BackP S X ∧ (S.size ≤ 8000 → X.size = S.size + 5) ∧ X.size ≤ 1000000 ∧ Upd [] w w'
set_option maxRecDepth 100000 in
set_option maxHeartbeats 3200000 in
theorem dstored_any (S : ByteArray) (w : World) (hs : S.size ≤ 65000) :
    Calls Tryz.prog 15 #[.string S] w fun e w' => DStP S w e w' := by
  have hsz : ¬ (65000 : Int) < (S.size : Int) := by omega
  go_enter Tryz.func15, Tryz.ntmps15
  go_wp2_with fail
  refine (lzplain_any S _ hs).mono ?_
  rintro e w1 ⟨v, rfl, hR, hO, hU1⟩
  have hok : ∀ t ∈ plainT (bytesOf S), okTok t := plainT_ok (bytesOf_lt S)
  have he : expTo (plainT (bytesOf S)) [] = some (bytesOf S) := by have := exp_plainT (bytesOf S) [] (by rw [length_bytesOf]; simpa using hs); simpa using this
  have hpl : (plainT (bytesOf S)).length = (bytesOf S).length := List.length_map _
  rw [← hpl] at hR
  obtain ⟨a, c, rfl, hT, -, ha, hc⟩ := TokIn.of_row hR (fun t ht => by
    have := hok t ht
    unfold okTok at this
    omega)
  have HU1 := Lib.hid hU1
  have HE := Lib.hid he
  have HOK := Lib.hid hok
  have HLD := Lib.hid (laid_any S (plainT (bytesOf S)) a (plainT (bytesOf S)).length c 36 (fun _ k => k = 0) w1 hT ha hc hR.cap (exp_size hok he) hs hok stored_kind stored_enters)
  obtain ⟨l, hl⟩ : ∃ l, plainT (bytesOf S) = l := ⟨_, rfl⟩
  have HL := Lib.hid hl
  rw [hl] at HLD HE HOK
  clear hU1 hR hO hT ha he hok hpl
  rw [hl]
  clear hl
  go_wp2_with fail
  refine HLD.out.mono ?_
  rintro e w2 ⟨M, hM, rfl, hU2⟩
  have HU2 := Lib.hid (HU1.out.then hU2)
  have HM := Lib.hid hM
  clear hM hU2 HLD
  go_wp2
  go_ret
  refine ⟨_, rfl, rt_back hs HOK.out HE.out HM.out, fun hx => ?_, ?_, HU2.out⟩
  · rw [size_pack, stored_len (bs := bytesOf S) (by rw [length_bytesOf]; exact hx) (by rw [HL.out]; exact HM.out), length_bytesOf]
    omega
  · have h1 := stored_max HM.out
    rw [rowsB_all, ← exp_size HOK.out HE.out] at h1
    have h2 : l.length ≤ 65000 := by rw [← HL.out]; unfold plainT; rw [List.length_map, length_bytesOf]; exact hs
    have h3 : rowsN l.length ≤ 9 := by unfold rowsN; split <;> omega
    rw [size_pack]
    omega
theorem dstored_long (S : ByteArray) (w : World) (hs : 65000 < S.size) :
    Calls Tryz.prog 15 #[.string S] w fun e w' => e = .returned (.string ⟨#[]⟩) ∧ w' = w := by
  have hsz : (65000 : Int) < (S.size : Int) := by omega
  go_enter Tryz.func15, Tryz.ntmps15
  go_wp2
  go_ret
  exact ⟨rfl, rfl⟩
def mostK (n : Int) : Nat := (max 0 (min n 65000)).toNat
theorem dmost_any (n : Int) (w : World) :
    Calls Tryz.prog 17 #[.int .i64 n] w fun e w' => e = .returned (.int .i64 (mostK n + 6 * rowsN (mostK n) : Nat)) ∧ w' = w := by
  obtain ⟨k, hk⟩ : ∃ k : Nat, max 0 (min n 65000) = (k : Int) := ⟨(max 0 (min n 65000)).toNat, by omega⟩
  have hmk : mostK n = k := by unfold mostK; rw [hk]; rfl
  rw [hmk]
  have hk65 : k ≤ 65000 := by omega
  have h1 : IntKind.i64.wrap ((k : Int) + 8000) = (k : Int) + 8000 := by rw [IntWalk.i64_in _ (by omega)]
  have h2 : IntKind.i64.wrap ((k : Int) + 8000 - 1) = (k : Int) + 7999 := by rw [IntWalk.i64_in _ (by omega)]; omega
  have HRN : Hid (max 1 (((k : Int) + 7999) / 8000) = (rowsN k : Nat)) := Lib.hid (by unfold rowsN; split <;> omega)
  have hrb : rowsN k ≤ 9 := by unfold rowsN; split <;> omega
  have HK := Lib.hid hk
  go_enter Tryz.func17, Tryz.ntmps17
  go_wp2
  go_ret
  refine ⟨?_, rfl⟩
  show Ending.returned (.int .i64 ((k : Int) + 6 * max 1 (((k : Int) + 7999) / 8000))) = _
  rw [HRN.out]
  rfl
end Go.Proofs.YtdehkaknbmbieaaGreat
namespace Go.Proofs.YtdehkaknbmbieaaGreat
set_option linter.unusedVariables false
set_option linter.unusedSimpArgs false
set_option linter.unusedSectionVars false
open Go.RowKit
set_option linter.unusedVariables false

instance (n i : Nat) : Decidable (isL n i) := by unfold isL; infer_instance
end Go.Proofs.YtdehkaknbmbieaaGreat
namespace Go.Proofs.YtdehkaknbmbieaaGreat
set_option linter.unusedVariables false
set_option linter.unusedSimpArgs false
set_option linter.unusedSectionVars false
open Go.RowKit
set_option linter.unusedVariables false

end Go.Proofs.YtdehkaknbmbieaaGreat
namespace Go.Proofs.YtdehkaknbmbieaaGreat
set_option linter.unusedVariables false
set_option linter.unusedSimpArgs false
set_option linter.unusedSectionVars false
open Go.RowKit
set_option linter.unusedVariables false

/-- The first N bytes of both are the same. -/
structure Agree (N : Nat) (s s' : ByteArray) : Prop where
  le : N ≤ s.size
  le' : N ≤ s'.size
  eq : (bytesOf s).take N = (bytesOf s').take N
theorem textBits_append (a b : List Nat) : textBits (a ++ b) = textBits a ++ textBits b := by simp [textBits]
theorem textBits_take8 (l : List Nat) (N : Nat) (h : N ≤ l.length) : (textBits l).take (8 * N) = textBits (l.take N) := by
  have e : textBits l = textBits (l.take N) ++ textBits (l.drop N) := by rw [← textBits_append, List.take_append_drop]
  rw [e, List.take_left']
  rw [length_textBits, List.length_take]; omega
theorem Agree.bits {N : Nat} {s s' : ByteArray} (h : Agree N s s') : (sbits s).take (8 * N) = (sbits s').take (8 * N) := by
  unfold sbits
  rw [textBits_take8 _ _ (by rw [length_bytesOf]; exact h.le), textBits_take8 _ _ (by rw [length_bytesOf]; exact h.le'), h.eq]
/-- What r tells, r' tells too, if it ends within N bytes; if s' ends there, too, and r doesn't, r' tells that. -/
def Tr {α : Type} (N : Nat) (s' : ByteArray) (r r' : Except Nat (α × Nat)) : Prop :=
  ∀ v a', r = .ok (v, a') → (a' ≤ 8 * N → r' = .ok (v, a')) ∧ (N = s'.size → 8 * N < a' → r' = .error 3)
theorem Tr.bind {α β : Type} {N : Nat} {s' : ByteArray} {x x' : Except Nat (α × Nat)} {f f' : α × Nat → Except Nat (β × Nat)} (hx : Tr N s' x x')
    (hf : ∀ v a1, x = .ok (v, a1) → a1 ≤ 8 * N → Tr N s' (f (v, a1)) (f' (v, a1))) (hm : ∀ v a1 u a2, x = .ok (v, a1) → f (v, a1) = .ok (u, a2) → a1 ≤ a2) : Tr N s' (x >>= f) (x' >>= f') := by
  intro u a2 h
  obtain ⟨⟨v, a1⟩, h1, h2⟩ := bind_ok h
  have hle := hm v a1 u a2 h1 h2
  obtain ⟨e1, e2⟩ := hx v a1 h1
  by_cases hc : a1 ≤ 8 * N
  · rw [e1 hc]
    exact hf v a1 h1 hc u a2 h2
  · refine ⟨fun h => by omega, fun hN _ => ?_⟩
    rw [e2 hN (by omega)]; rfl
theorem Tr.map {α β : Type} {N : Nat} {s' : ByteArray} {x x' : Except Nat (α × Nat)} {f : α × Nat → β × Nat} (hx : Tr N s' x x') (hf : ∀ r, (f r).2 = r.2) : Tr N s' (x.map f) (x'.map f) := by
  intro u a2 h
  obtain ⟨⟨v, a1⟩, h1, h2⟩ := map_ok h
  obtain ⟨e1, e2⟩ := hx v a1 h1
  have := hf (v, a1)
  rw [h2] at this
  simp only at this
  subst this
  refine ⟨fun h => ?_, fun hN hlt => ?_⟩
  · rw [e1 h]; show Except.ok (f (v, a2)) = _; rw [h2]
  · rw [e2 hN hlt]; rfl
section
variable {N : Nat} {s s' : ByteArray} (hA : Agree N s s')
include hA
end
end Go.Proofs.YtdehkaknbmbieaaGreat
namespace Go.Proofs.YtdehkaknbmbieaaGreat
set_option linter.unusedVariables false
set_option linter.unusedSimpArgs false
set_option linter.unusedSectionVars false
open Go.RowKit
set_option linter.unusedVariables false

theorem Tr.pure {α : Type} {N : Nat} {s' : ByteArray} {v : α} {a : Nat} (ha : a ≤ 8 * N) : Tr N s' (.ok (v, a)) (.ok (v, a)) := by
  intro u a2 h
  cases h
  exact ⟨fun _ => rfl, fun _ h => by omega⟩
section
variable {N : Nat} {s s' : ByteArray} (hA : Agree N s s')
include hA
end
end Go.Proofs.YtdehkaknbmbieaaGreat
namespace Go.Proofs.YtdehkaknbmbieaaGreat
set_option linter.unusedVariables false
set_option linter.unusedSimpArgs false
set_option linter.unusedSectionVars false
open Go.RowKit
set_option linter.unusedVariables false

/-- What r makes, r' makes too, if there is room for it; else r' tells that there is none. -/
def Rm {α : Type} (len : α → Nat) (m : Nat) (r r' : Except Nat α) : Prop := ∀ v, r = .ok v → (len v ≤ m → r' = .ok v) ∧ (m < len v → r' = .error 4)
theorem Rm.pure {α : Type} {len : α → Nat} {m : Nat} {v : α} (h : len v ≤ m) : Rm len m (.ok v) (.ok v) := fun u e => by cases e; exact ⟨fun _ => rfl, fun h => by omega⟩
theorem Rm.same {α β : Type} {len : β → Nat} {m : Nat} {x : Except Nat α} {f f' : α → Except Nat β} (h : ∀ v, x = .ok v → Rm len m (f v) (f' v)) : Rm len m (x >>= f) (x >>= f') := by
  intro u e
  obtain ⟨v, h1, h2⟩ := bind_ok e
  rw [h1]
  exact h v h1 u h2
theorem Rm.bind {α β : Type} {len : α → Nat} {len' : β → Nat} {m : Nat} {x x' : Except Nat α} {f f' : α → Except Nat β} (hx : Rm len m x x') (hf : ∀ v, x = .ok v → len v ≤ m → Rm len' m (f v) (f' v))
    (hm : ∀ v u, x = .ok v → f v = .ok u → len v ≤ len' u) : Rm len' m (x >>= f) (x' >>= f') := by
  intro u e
  obtain ⟨v, h1, h2⟩ := bind_ok e
  have hle := hm v u h1 h2
  obtain ⟨e1, e2⟩ := hx v h1
  by_cases hc : len v ≤ m
  · rw [e1 hc]; exact hf v h1 hc u h2
  · refine ⟨fun h => by omega, fun _ => ?_⟩
    rw [e2 (by omega)]; rfl
end Go.Proofs.YtdehkaknbmbieaaGreat
namespace Go.Proofs.YtdehkaknbmbieaaGreat
set_option linter.unusedVariables false
set_option linter.unusedSimpArgs false
set_option linter.unusedSectionVars false
open Go.RowKit
set_option linter.unusedVariables false

def Er {α : Type} (r : Except Nat α) : Prop := ∀ c, r = .error c → 2 ≤ c ∧ c ≤ 4
theorem Er.ok {α : Type} {v : α} : Er (.ok v : Except Nat α) := fun c h => by cases h
theorem Er.error {α : Type} {k : Nat} (h : 2 ≤ k ∧ k ≤ 4) : Er (.error k : Except Nat α) := fun c e => by cases e; exact h
theorem Er.bind {α β : Type} {x : Except Nat α} {f : α → Except Nat β} (hx : Er x) (hf : ∀ v, x = .ok v → Er (f v)) : Er (x >>= f) := by
  intro c e
  cases hc : x with
  | error k => rw [hc] at e; cases e; exact hx _ hc
  | ok v => rw [hc] at e; exact hf v hc c e
theorem Er.map {α β : Type} {x : Except Nat α} {f : α → β} (hx : Er x) : Er (x.map f) := by
  intro c e
  cases hc : x with
  | error k => rw [hc] at e; cases e; exact hx _ hc
  | ok v => rw [hc] at e; cases e
end Go.Proofs.YtdehkaknbmbieaaGreat
namespace Go.Proofs.YtdehkaknbmbieaaGreat
set_option linter.unusedVariables false
set_option linter.unusedSimpArgs false
set_option linter.unusedSectionVars false
open Go.RowKit
set_option linter.unusedVariables false

/-- The document's state at block bx, its reader at br. -/
structure XAt (w : World) (bx br : Nat) (s : ByteArray) (why a : Nat) (O : ByteArray) (most : Nat) : Prop where
  blk : Blk w bx [.pointer (some ⟨br, 0, none⟩), .string O, .int .i64 (most : Nat), .int .i64 (why : Nat)] 69
  ne : bx ≠ br
  rd : ∃ bad, RdAt w br 67 s a bad ∧ (why = 0 → bad = false)
  le : a ≤ 8 * s.size
/-- What is told at last, where 'why' is known by now, and 'rest' is to come. -/
def Sp {α : Type} (TP : Except Nat α) (why : Nat) (rest : Except Nat α) : Prop := (why ≠ 0 ∧ TP = .error why) ∨ (why = 0 ∧ TP = rest)
def TakeRel (s : ByteArray) (why a n v why' a' : Nat) : Prop :=
  (why ≠ 0 ∧ v = 0 ∧ why' = why ∧ a' = a) ∨ (why = 0 ∧ takeP s a n = .ok (v, a') ∧ why' = 0) ∨ (why = 0 ∧ takeP s a n = .error 3 ∧ v = 0 ∧ why' = 3 ∧ a' = a)
def MustRel (why : Nat) (b : Bool) (why' : Nat) : Prop := (why ≠ 0 ∧ why' = why) ∨ (why = 0 ∧ b = true ∧ why' = 0) ∨ (why = 0 ∧ b = false ∧ why' = 2)
def NextRel (l : List Int) (s : ByteArray) (why a v why' a' : Nat) : Prop :=
  (why ≠ 0 ∧ v = 0 ∧ why' = why ∧ a' = a) ∨ (why = 0 ∧ nextP l s a = .ok (v, a') ∧ why' = 0) ∨ (why = 0 ∧ v = 0 ∧ why' ≠ 0 ∧ nextP l s a = .error why')
theorem Sp.take {α : Type} {TP : Except Nat α} {s : ByteArray} {why a n v why' a' : Nat} {f : Nat × Nat → Except Nat α} (h : Sp TP why (takeP s a n >>= f)) (ht : TakeRel s why a n v why' a') : Sp TP why' (f (v, a')) := by
  rcases h with ⟨h1, h2⟩ | ⟨h1, h2⟩
  · rcases ht with ⟨_, _, h3, _⟩ | ⟨h3, _⟩ | ⟨h3, _⟩
    · exact .inl ⟨by omega, by rw [h3]; exact h2⟩
    · omega
    · omega
  · rcases ht with ⟨h3, _⟩ | ⟨_, h3, h4⟩ | ⟨_, h3, _, h4, _⟩
    · omega
    · exact .inr ⟨h4, by rw [h2, h3]; rfl⟩
    · exact .inl ⟨by omega, by rw [h2, h3, h4]; rfl⟩
theorem Sp.next {α : Type} {TP : Except Nat α} {l : List Int} {s : ByteArray} {why a v why' a' : Nat} {f : Nat × Nat → Except Nat α} (h : Sp TP why (nextP l s a >>= f)) (ht : NextRel l s why a v why' a') : Sp TP why' (f (v, a')) := by
  rcases h with ⟨h1, h2⟩ | ⟨h1, h2⟩
  · rcases ht with ⟨_, _, h3, _⟩ | ⟨h3, _⟩ | ⟨h3, _⟩
    · exact .inl ⟨by omega, by rw [h3]; exact h2⟩
    · omega
    · omega
  · rcases ht with ⟨h3, _⟩ | ⟨_, h3, h4⟩ | ⟨_, _, h4, h3⟩
    · omega
    · exact .inr ⟨h4, by rw [h2, h3]; rfl⟩
    · exact .inl ⟨h4, by rw [h2, h3]; rfl⟩
theorem Sp.must {α : Type} {TP rest : Except Nat α} {why why' : Nat} {b : Bool} (h : Sp TP why (if b = true then rest else .error 2)) (ht : MustRel why b why') : Sp TP why' rest := by
  rcases h with ⟨h1, h2⟩ | ⟨h1, h2⟩
  · rcases ht with ⟨_, h3⟩ | ⟨h3, _⟩ | ⟨h3, _⟩
    · exact .inl ⟨by omega, by rw [h3]; exact h2⟩
    · omega
    · omega
  · rcases ht with ⟨h3, _⟩ | ⟨_, h3, h4⟩ | ⟨_, h3, h4⟩
    · omega
    · exact .inr ⟨h4, by rw [h2, if_pos h3]⟩
    · exact .inl ⟨by omega, by rw [h2, if_neg (by rw [h3]; simp), h4]⟩
theorem XAt.upd {w w' : World} {bx br : Nat} {s : ByteArray} {why a : Nat} {O : ByteArray} {most : Nat} {fp : List Nat} (h : XAt w bx br s why a O most) (hU : Upd fp w w') (h1 : bx ∉ fp) (h2 : br ∉ fp) : XAt w' bx br s why a O most := by
  obtain ⟨bad, hR, hb⟩ := h.rd
  exact ⟨h.blk.upd hU h1, h.ne, ⟨bad, hR.upd hU h2, hb⟩, h.le⟩
end Go.Proofs.YtdehkaknbmbieaaGreat
namespace Go.Proofs.YtdehkaknbmbieaaGreat
set_option linter.unusedVariables false
set_option linter.unusedSimpArgs false
set_option linter.unusedSectionVars false
open Go.RowKit
set_option linter.unusedVariables false

/-- What the rounds of the lengths keep. -/
structure RowSt (w0 w : World) (bx br : Nat) (s : ByteArray) (O : ByteArray) (most : Nat) (v : Value) (L : List Nat) (why a : Nat) : Prop where
  x : XAt w bx br s why a O most
  row : Row w 3 1 v L.length (i64s L)
  le : ∀ x ∈ L, x ≤ 15
  len : L.length ≤ 320
  upd : Upd [bx, br] w0 w
  new : ∀ k, v.ownBlock = some k → w0.heap.size ≤ k
theorem RowSt.step {w0 w w' : World} {bx br : Nat} {s : ByteArray} {O : ByteArray} {most : Nat} {v : Value} {L : List Nat} {why a why' a' : Nat} (h : RowSt w0 w bx br s O most v L why a) (hbx : bx < w0.heap.size) (hbr : br < w0.heap.size) (hX : XAt w' bx br s why' a' O most) (hU : Upd [bx, br] w w') : RowSt w0 w' bx br s O most v L why' a' :=
  ⟨hX, h.row.upd hU (fun k hk hm => by have := h.new k hk; simp at hm; omega), h.le, h.len, h.upd.then hU, h.new⟩
theorem Sp.late {α : Type} {TP x : Except Nat α} {why : Nat} (h : Sp TP why x) (hw : why ≠ 0) (y : Except Nat α) : Sp TP why y := by
  rcases h with h | ⟨h, _⟩
  · exact .inl h
  · exact absurd h hw
/-- One length more. -/
theorem RowSt.push {w0 wr w9 : World} {bx br : Nat} {s : ByteArray} {O : ByteArray} {most : Nat} {v v9 : Value} {M : List Nat} {X why a : Nat} (h : RowSt w0 wr bx br s O most v M why a) (hbx : bx < w0.heap.size) (hbr : br < w0.heap.size) (o : Obj)
    (hR : Row w9 3 1 v9 (M.length + 1) (i64s M ++ [.int .i64 (X : Nat)])) (hU : Upd v.ownBlock.toList (wr.alloc o) w9) (hT : Later (wr.alloc o) v v9) (hX : X ≤ 15) (hl : M.length + 1 ≤ 320) : RowSt w0 w9 bx br s O most v9 (M ++ [X]) why a := by
  have hnb : ∀ k ∈ v.ownBlock.toList, w0.heap.size ≤ k := fun k hk => h.new k (by simpa using hk)
  refine ⟨(h.x.upd ((Upd.refl [] wr).alloc o) (by simp) (by simp)).upd hU (fun hm => by have := hnb _ hm; omega) (fun hm => by have := hnb _ hm; omega), ?_, ?_, by simpa using hl, ?_, ?_⟩
  · rw [List.length_append]; simpa [i64s] using hR
  · intro y hy
    rcases List.mem_append.1 hy with h1 | h1
    · exact h.le y h1
    · simp at h1; omega
  · exact (h.upd.alloc o).trans hU (fun k hk => .inr (hnb k hk))
  · intro k hk
    rcases hT with h1 | ⟨g, h1, h2⟩
    · rw [h1] at hk; exact h.new k hk
    · rw [h1] at hk; cases hk
      rw [World.size_alloc] at h2
      have := h.upd.size
      omega
end Go.Proofs.YtdehkaknbmbieaaGreat
namespace Go.Proofs.YtdehkaknbmbieaaGreat
set_option linter.unusedVariables false
set_option linter.unusedSimpArgs false
set_option linter.unusedSectionVars false
open Go.RowKit
set_option linter.unusedVariables false

theorem XAt.drewN {w : World} {bx br : Nat} {s : ByteArray} {why a : Nat} {O : ByteArray} {most : Nat} (h : XAt w bx br s why a O most) (k : Nat) : XAt (w.drewN k) bx br s why a O most := h.upd ((Upd.refl [] w).drewN k) (by simp) (by simp)
def PutRel (why : Nat) (O t : ByteArray) (most why' : Nat) (O' : ByteArray) : Prop :=
  (why ≠ 0 ∧ why' = why ∧ O' = O) ∨ (why = 0 ∧ O.size + t.size ≤ most ∧ why' = 0 ∧ O' = O ++ t) ∨ (why = 0 ∧ ¬ O.size + t.size ≤ most ∧ why' = 4 ∧ O' = O)

theorem Sp.put {α : Type} {TP rest : Except Nat α} {why why' most : Nat} {O t O' : ByteArray} {b : Bool} (h : Sp TP why (if b = true then rest else .error 4)) (ht : PutRel why O t most why' O') (hb : b = decide (O.size + t.size ≤ most)) : Sp TP why' rest := by
  rcases h with ⟨h1, h2⟩ | ⟨h1, h2⟩
  · rcases ht with ⟨_, h3, _⟩ | ⟨h3, _⟩ | ⟨h3, _⟩
    · exact .inl ⟨by omega, by rw [h3]; exact h2⟩
    · omega
    · omega
  · rcases ht with ⟨h3, _⟩ | ⟨_, h3, h4, _⟩ | ⟨_, h3, h4, _⟩
    · omega
    · exact .inr ⟨h4, by rw [h2, hb, if_pos (by simpa using h3)]⟩
    · exact .inl ⟨by omega, by rw [h2, hb, if_neg (by simpa using h3), h4]⟩
end Go.Proofs.YtdehkaknbmbieaaGreat
namespace Go.Proofs.YtdehkaknbmbieaaGreat
set_option linter.unusedVariables false
set_option linter.unusedSimpArgs false
set_option linter.unusedSectionVars false
open Go.RowKit
set_option linter.unusedVariables false

end Go.Proofs.YtdehkaknbmbieaaGreat
namespace Go.Proofs.YtdehkaknbmbieaaGreat
set_option linter.unusedVariables false
set_option linter.unusedSimpArgs false
set_option linter.unusedSectionVars false
open Go.RowKit
set_option linter.unusedVariables false

theorem XAt.rdTo {w w' : World} {bx br : Nat} {s : ByteArray} {a a' : Nat} {O : ByteArray} {most : Nat} (h : XAt w bx br s 0 a O most) (hU : Upd [br] w w') (hR : RdAt w' br 67 s a' false) : XAt w' bx br s 0 a' O most :=
  ⟨h.blk.upd hU (by have := h.ne; simp; omega), h.ne, ⟨false, hR, fun _ => rfl⟩, hR.2⟩
end Go.Proofs.YtdehkaknbmbieaaGreat
namespace Go.Proofs.YtdehkaknbmbieaaGreat
set_option linter.unusedVariables false
set_option linter.unusedSimpArgs false
set_option linter.unusedSectionVars false
open Go.RowKit
set_option linter.unusedVariables false

def GrowRel (w0 w : World) (v : Value) (L : List Nat) : Prop := Row w 3 1 v L.length (i64s L) ∧ Upd [] w0 w ∧ ∀ k, v.ownBlock = some k → w0.heap.size ≤ k
theorem GrowRel.push {w0 wr w9 : World} {v v9 : Value} {L : List Nat} {X : Nat} (h : GrowRel w0 wr v L) (o : Obj) (hR : Row w9 3 1 v9 (L.length + 1) (i64s L ++ [.int .i64 (X : Nat)])) (hU : Upd v.ownBlock.toList (wr.alloc o) w9) (hT : Later (wr.alloc o) v v9) : GrowRel w0 w9 v9 (L ++ [X]) := by
  refine ⟨?_, (h.2.1.alloc o).trans hU (fun k hk => .inr (h.2.2 k (by simpa using hk))), ?_⟩
  · rw [List.length_append]; simpa [i64s] using hR
  · intro k hk
    rcases hT with h1 | ⟨g, h1, h2⟩
    · rw [h1] at hk; exact h.2.2 k hk
    · rw [h1] at hk; cases hk
      rw [World.size_alloc] at h2
      have := h.2.1.size
      omega

end Go.Proofs.YtdehkaknbmbieaaGreat
namespace Go.Proofs.YtdehkaknbmbieaaGreat
set_option linter.unusedVariables false
set_option linter.unusedSimpArgs false
set_option linter.unusedSectionVars false
open Go.RowKit
set_option linter.unusedVariables false

theorem IntsIn.nil (w : World) : IntsIn w none ([] : List Int).length [] := ⟨rfl, fun i h => by simp at h⟩
/-- Behind a block: late, or fine. -/
def KindDone (K : Except Nat (List Nat × Nat)) (y : Nat) (out : List Nat) (a : Nat) : Prop := (y ≠ 0 ∧ K = .error y) ∨ (y = 0 ∧ K = .ok (out, a))
theorem KindDone.of {K : Except Nat (List Nat × Nat)} {y : Nat} {out : List Nat} {a : Nat} (h : Sp K y (.ok (out, a))) : KindDone K y out a := h

end Go.Proofs.YtdehkaknbmbieaaGreat
namespace Go.Proofs.YtdehkaknbmbieaaGreat
set_option linter.unusedVariables false
set_option linter.unusedSimpArgs false
set_option linter.unusedSectionVars false
open Go.RowKit
set_option linter.unusedVariables false

end Go.Proofs.YtdehkaknbmbieaaGreat
namespace Go.Proofs.YtdehkaknbmbieaaGreat
set_option linter.unusedVariables false
set_option linter.unusedSimpArgs false
set_option linter.unusedSectionVars false
open Go.RowKit
attribute [local go_sem] Oper.semAt_some
set_option linter.unusedVariables false
set_option linter.unusedSimpArgs false

theorem capI_nat (m : Nat) (h : m ≤ 65000) : capI (m : Int) = m := by unfold capI; omega
end Go.Proofs.YtdehkaknbmbieaaGreat

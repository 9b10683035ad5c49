/- Tokens (plain), and what they expand to. -/
import Derived.Test.YtdehkaknbmbieaaSame
namespace Go.Proofs.Ytdehkaknbmbieaa
set_option linter.unusedVariables false
set_option linter.unusedSimpArgs false
set_option linter.unusedSectionVars false
open Go.RowKit
set_option linter.unusedVariables false

/-- A token. -/
structure Tok where
  byte : Nat
  long : Int
  back : Int
def Tok.cs (t : Tok) : List Value := [.int .u8 (t.byte : Nat), .int .i64 t.long, .int .i64 t.back]
/-- Tokens that can be read where a slice leads. -/
structure TokIn (w : World) (a : Option Addr) (len : Nat) (l : List Tok) : Prop where
  len : l.length = len
  cell : ∀ i (h : i < l.length), ∃ b off, a = some ⟨b, off, none⟩ ∧ (w.cell? ⟨b, off + i * 3, none⟩ = some (.int .u8 (l[i].byte : Nat)) ∧ w.cell? ⟨b, off + i * 3 + 1, none⟩ = some (.int .i64 l[i].long) ∧ w.cell? ⟨b, off + i * 3 + 2, none⟩ = some (.int .i64 l[i].back)) ∧
    l[i].byte < 256 ∧ (-9223372036854775808 ≤ l[i].long ∧ l[i].long ≤ 9223372036854775807) ∧ (-9223372036854775808 ≤ l[i].back ∧ l[i].back ≤ 9223372036854775807)
theorem TokIn.upd {w w' : World} {a : Option Addr} {len : Nat} {l : List Tok} {fp : List Nat} (h : TokIn w a len l) (hU : Upd fp w w') (hf : ∀ b off, a = some ⟨b, off, none⟩ → b ∉ fp) : TokIn w' a len l :=
  ⟨h.len, fun i hi => by
    obtain ⟨b, off, e, ⟨c1, c2, c3⟩, r⟩ := h.cell i hi
    have hb : b < w.heap.size := World.block_lt_of_cell? w _ c1
    exact ⟨b, off, e, ⟨(hU.at hb (hf b off e) _).trans c1, (hU.at hb (hf b off e) _).trans c2, (hU.at hb (hf b off e) _).trans c3⟩, r⟩⟩
theorem TokIn.pure {w w' : World} {a : Option Addr} {len : Nat} {l : List Tok} (h : TokIn w a len l) (hU : Upd [] w w') : TokIn w' a len l := h.upd hU (by simp)
/-- So many bytes more, each from so far back. -/
def copyN (s : List Nat) (back : Nat) : Nat → List Nat
  | 0 => s
  | k + 1 => copyN s back k ++ [(copyN s back k).getD ((copyN s back k).length - back) 0]
theorem copyN_succ (s : List Nat) (back k : Nat) : copyN s back (k + 1) = copyN s back k ++ [(copyN s back k).getD ((copyN s back k).length - back) 0] := by rw [copyN]
theorem copyN_len (s : List Nat) (back : Nat) : ∀ k, (copyN s back k).length = s.length + k
  | 0 => rfl
  | k + 1 => by rw [copyN_succ, List.length_append, copyN_len s back k]; rfl
theorem copyN_lt (s : List Nat) (back : Nat) (h : ∀ x ∈ s, x < 256) : ∀ k, ∀ x ∈ copyN s back k, x < 256
  | 0, x, hx => h x hx
  | k + 1, x, hx => by
    rw [copyN_succ] at hx
    rcases List.mem_append.1 hx with h1 | h1
    · exact copyN_lt s back h k x h1
    · simp only [List.mem_singleton] at h1
      rw [h1, List.getD_eq_getElem?_getD]
      cases h2 : (copyN s back k)[(copyN s back k).length - back]? with
      | none => simp
      | some y => exact copyN_lt s back h k y (List.mem_of_getElem? h2)
/-- May a copy not be, behind so many bytes? -/
def badCopy (t : Tok) (n : Nat) : Prop := t.byte ≠ 0 ∨ t.long < 3 ∨ 258 < t.long ∨ t.back < 1 ∨ 32768 < t.back ∨ (n : Int) < t.back ∨ 65000 < t.long + (n : Int)
instance (t : Tok) (n : Nat) : Decidable (badCopy t n) := by unfold badCopy; infer_instance
/-- What tokens expand to. -/
def expTo : List Tok → List Nat → Option (List Nat)
  | [], s => some s
  | t :: r, s => if t.long = 0 then (if t.back ≠ 0 ∨ 65000 ≤ s.length then none else expTo r (s ++ [t.byte])) else if badCopy t s.length then none else expTo r (copyN s t.back.toNat t.long.toNat)
theorem expTo_cons (t : Tok) (r : List Tok) (s : List Nat) : expTo (t :: r) s = if t.long = 0 then (if t.back ≠ 0 ∨ 65000 ≤ s.length then none else expTo r (s ++ [t.byte])) else if badCopy t s.length then none else expTo r (copyN s t.back.toNat t.long.toNat) := rfl
/-- A token that may be. -/
def okTok (t : Tok) : Prop := (t.long = 0 ∧ t.back = 0 ∧ t.byte < 256) ∨ (t.byte = 0 ∧ 3 ≤ t.long ∧ t.long ≤ 258 ∧ 1 ≤ t.back ∧ t.back ≤ 32768)
theorem expTo_ok : ∀ (l : List Tok) (s r : List Nat), (∀ t ∈ l, t.byte < 256) → expTo l s = some r → ∀ t ∈ l, okTok t
  | [], _, _, _, _, t, ht => by simp at ht
  | u :: l, s, r, hb, h, t, ht => by
    rw [expTo_cons] at h
    by_cases h0 : u.long = 0
    · rw [if_pos h0] at h
      by_cases h1 : u.back ≠ 0 ∨ 65000 ≤ s.length
      · rw [if_pos h1] at h; cases h
      · rw [if_neg h1] at h
        rcases List.mem_cons.1 ht with rfl | h2
        · exact .inl ⟨h0, by omega, hb _ List.mem_cons_self⟩
        · exact expTo_ok l _ r (fun x hx => hb x (List.mem_cons_of_mem _ hx)) h t h2
    · rw [if_neg h0] at h
      by_cases h1 : badCopy u s.length
      · rw [if_pos h1] at h; cases h
      · rw [if_neg h1] at h
        rcases List.mem_cons.1 ht with rfl | h2
        · unfold badCopy at h1
          exact .inr (by omega)
        · exact expTo_ok l _ r (fun x hx => hb x (List.mem_cons_of_mem _ hx)) h t h2
end Go.Proofs.Ytdehkaknbmbieaa

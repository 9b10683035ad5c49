/- Package inflate: a block's own lengths: plain, and the walk of tables. -/
import Derived.Test.YtdehkaknbmbieaaGreatQAL
import Derived.Test.YtdehkaknbmbieaaGreatQBB
import Derived.Test.YtdehkaknbmbieaaGreatQBM
import Derived.Test.YtdehkaknbmbieaaGreatQBN
import Derived.Test.YtdehkaknbmbieaaGreatQAR
import Derived.Test.YtdehkaknbmbieaaGreatQBD
namespace Go.Proofs.YtdehkaknbmbieaaGreat
set_option linter.unusedVariables false
set_option linter.unusedSimpArgs false
set_option linter.unusedSectionVars false
open Go.RowKit
set_option linter.unusedVariables false

def orderL : List Nat := [16, 17, 18, 0, 8, 7, 9, 6, 10, 5, 11, 4, 12, 3, 13, 2, 14, 1, 15]
/-- The lengths of the lengths: m more, of which the next is number i. -/
def firstP (s : ByteArray) : Nat → Nat → List Nat → Nat → Except Nat (List Nat × Nat)
  | 0, _, L, a => .ok (L, a)
  | m + 1, i, L, a =>
    match takeP s a 3 with
    | .error c => .error c
    | .ok r => firstP s m (i + 1) (L.set (orderL.getD i 0) r.1) r.2
def tabEnd (n : Nat) (r : List Nat × Nat) : Except Nat ((List Nat × List Nat) × Nat) :=
  if 0 < r.1.getD 256 0 ∧ lensOk (ints (r.1.take n)) = true then
    if kindOf (ints (r.1.drop n)) = 0 ∨ lensOk (ints (r.1.drop n)) = true then .ok ((r.1.take n, r.1.drop n), r.2) else .error 2
  else .error 2
def tabRow (s : ByteArray) (n m : Nat) (r : List Nat × Nat) : Except Nat ((List Nat × List Nat) × Nat) :=
  if kindOf (ints r.1) = 1 then (rowP (ints r.1) s (n + m) (n + m) [] r.2) >>= tabEnd n else .error 2
def tabFirst (s : ByteArray) (n m k a : Nat) : Except Nat ((List Nat × List Nat) × Nat) :=
  if n ≤ 286 ∧ m ≤ 30 then (firstP s k 0 (List.replicate 19 0) a) >>= tabRow s n m else .error 2
def tablesP (s : ByteArray) (a : Nat) : Except Nat ((List Nat × List Nat) × Nat) :=
  takeP s a 5 >>= fun r1 => takeP s r1.2 5 >>= fun r2 => takeP s r2.2 4 >>= fun r3 => tabFirst s (257 + r1.1) (1 + r2.1) (4 + r3.1) r3.2

theorem orderL_get (i : Nat) (h : i < 19) : orderL[i]? = some (orderL.getD i 0) := by
  rw [List.getD, List.getElem?_eq_getElem h]; rfl
theorem orderL_lt (i : Nat) (h : i < 19) : orderL.getD i 0 < 19 := by
  have : ∀ i : Fin 19, orderL.getD i.val 0 < 19 := by decide
  exact this ⟨i, h⟩
theorem qnats_ints (L : List Nat) : nats (ints L) = L := by simp [nats, ints, Function.comp_def]
theorem length_ints (L : List Nat) : (ints L).length = L.length := by simp [ints]
/-- A part of a row, as integers. -/
theorem IntsIn.part {w : World} {g n cap : Nat} {L : List Nat} (h : Row w 3 1 (.slice (some ⟨g, 0, none⟩) n cap) n (i64s L)) (hb : ∀ x ∈ L, x ≤ 1099511627776) (off len : Nat) (hl : off + len ≤ L.length) :
    IntsIn w (some ⟨g, off, none⟩) (ints ((L.drop off).take len)).length (ints ((L.drop off).take len)) :=
  ⟨rfl, fun i hi => by
    have hi' : i < len := by simp [ints] at hi; omega
    have hLi : off + i < L.length := by omega
    have he : (ints ((L.drop off).take len))[i] = ((L[off + i] : Nat) : Int) := by simp [ints]
    refine ⟨g, off, rfl, ?_, ?_⟩
    · rw [he, Row.cell h (off + i) (i64s_get _ _ _ (List.getElem?_eq_getElem hLi))]
    · have := hb _ (List.getElem_mem hLi)
      rw [he]; omega⟩
theorem oneP_ok {s : ByteArray} {k a n v a' : Nat} {L : List Nat} (hL : ∀ x ∈ L, x ≤ 15) (h : oneP s k L a = .ok ((n, v), a')) : 1 ≤ n ∧ v ≤ 15 := by
  unfold oneP at h
  split at h
  · unfold againP at h
    split at h
    · split at h
      · cases h
      · rename_i hL0
        rcases takeP_cases s a 2 with ⟨t, _, _, ht⟩ | ht
        · rw [ht] at h; cases h
          refine ⟨by omega, ?_⟩
          rw [List.getLastD_eq_getLast?, List.getLast?_eq_some_getLast hL0]
          exact hL _ (List.getLast_mem hL0)
        · rw [ht] at h; cases h
    · split at h
      · rcases takeP_cases s a 3 with ⟨t, _, _, ht⟩ | ht
        · rw [ht] at h; cases h; omega
        · rw [ht] at h; cases h
      · rcases takeP_cases s a 7 with ⟨t, _, _, ht⟩ | ht
        · rw [ht] at h; cases h; omega
        · rw [ht] at h; cases h
  · cases h; omega
theorem rowP_ok {l : List Int} {s : ByteArray} {many : Nat} : ∀ (f : Nat) (L : List Nat) (a : Nat) (L' : List Nat) (a' : Nat), (∀ x ∈ L, x ≤ 15) → L.length ≤ many → many ≤ f + L.length → rowP l s many f L a = .ok (L', a') → L'.length = many ∧ ∀ x ∈ L', x ≤ 15 := by
  intro f
  induction f with
  | zero =>
    intro L a L' a' h15 h1 h2 h
    cases h
    exact ⟨by omega, h15⟩
  | succ f ih =>
    intro L a L' a' h15 h1 h2 h
    simp only [rowP] at h
    split at h
    · split at h
      · cases h
      · split at h
        · cases h
        · rename_i q hq
          split at h
          · rename_i hle
            obtain ⟨⟨n, v⟩, a2⟩ := q
            have ho := oneP_ok h15 hq
            simp only at hle
            refine ih _ _ _ _ ?_ ?_ ?_ h
            · intro x hx
              rcases List.mem_append.1 hx with h | h
              · exact h15 x h
              · simp at h; omega
            · simp; omega
            · simp; omega
          · cases h
    · cases h
      exact ⟨by omega, h15⟩
end Go.Proofs.YtdehkaknbmbieaaGreat
namespace Go.Proofs.YtdehkaknbmbieaaGreat
set_option linter.unusedVariables false
set_option linter.unusedSimpArgs false
set_option linter.unusedSectionVars false
open Go.RowKit
set_option linter.unusedVariables false

/-- A state at block x: its Reader at b, what it has made. -/
structure StAt (w : World) (x b : Nat) (v : Value) (s : ByteArray) (a : Nat) (out : List Nat) (most : Nat) : Prop where
  blk : Blk w x [.pointer (some ⟨b, 0, none⟩), v, .int .i64 (most : Nat)] 84
  row : Row w 5 1 v out.length (u8s out)
  rd : RdAt w b 123 s a false
  vx : v.ownBlock ≠ some x
  vb : v.ownBlock ≠ some b
  xb : x ≠ b
  le : out.length ≤ most
  cap : most ≤ 65000
  lt : ∀ y ∈ out, y < 256

end Go.Proofs.YtdehkaknbmbieaaGreat
namespace Go.Proofs.YtdehkaknbmbieaaGreat
set_option linter.unusedVariables false
set_option linter.unusedSimpArgs false
set_option linter.unusedSectionVars false
open Go.RowKit
set_option linter.unusedVariables false

def qcopyN (far : Nat) : Nat → List Nat → List Nat
  | 0, out => out
  | n + 1, out => qcopyN far n (out ++ [out.getD (out.length - far) 0])
theorem length_copyN (far n : Nat) (out : List Nat) : (qcopyN far n out).length = out.length + n := by
  induction n generalizing out with
  | zero => rfl
  | succ n ih => simp only [qcopyN, ih]; simp; omega
theorem copyN_snoc (far n : Nat) (out : List Nat) : qcopyN far (n + 1) out = qcopyN far n out ++ [(qcopyN far n out).getD ((qcopyN far n out).length - far) 0] := by
  induction n generalizing out with
  | zero => rfl
  | succ n ih => rw [qcopyN, ih]; rfl
/-- The end of a copy: how far, how long. -/
def copyEnd (most long : Nat) (out : List Nat) (code a : Nat) (r : Nat × Nat) : Except Nat (List Nat × Nat) :=
  match numS 1 2 4 30 (code : Nat) (r.1 : Nat) with
  | none => .error 2
  | some far => if far ≤ out.length then (if out.length + long ≤ most then .ok (qcopyN far long out, r.2) else .error 4) else .error 2
def copyBack (s : ByteArray) (most long : Nat) (out : List Nat) (r : Nat × Nat) : Except Nat (List Nat × Nat) :=
  if backB (r.1 : Nat) < 0 then .error 2 else takeP s r.2 (backB (r.1 : Nat)).toNat >>= copyEnd most long out r.1 r.2
def copyLong (l2 : List Int) (s : ByteArray) (most sym : Nat) (out : List Nat) (r : Nat × Nat) : Except Nat (List Nat × Nat) :=
  match longN (sym : Nat) (r.1 : Nat) with
  | none => .error 2
  | some long => nextP l2 s r.2 >>= copyBack s most long out
def copyP (l2 : List Int) (s : ByteArray) (most sym : Nat) (out : List Nat) (a : Nat) : Except Nat (List Nat × Nat) :=
  if longB (sym : Nat) < 0 then .error 2 else takeP s a (longB (sym : Nat)).toNat >>= copyLong l2 s most sym out

/-- Behind a step that makes bytes: x's and b's blocks, and v's row, may have turned. -/
def stFp (x b : Nat) (v : Value) : List Nat := x :: b :: v.ownBlock.toList
theorem longN_le {n more : Int} {v : Nat} (h : longN n more = some v) : v ≤ 258 := by
  unfold longN at h
  split at h
  · split at h
    · cases h; omega
    · cases h
  · split at h
    · cases h
    · split at h
      · split at h
        · cases h
        · cases h; omega
      · cases h
theorem sbeg_ge (B G F M k : Nat) : B ≤ sbeg B G F M k := by
  induction k with
  | zero => exact Nat.le_refl _
  | succ k ih => exact Nat.le_trans ih (Nat.le_add_right _ _)
theorem numS_ge {B G F M : Nat} {k more : Int} {v : Nat} (h : numS B G F M k more = some v) : B ≤ v := by
  unfold numS at h
  split at h
  · cases h
  · cases h; have := sbeg_ge B G F M k.toNat; omega
theorem StAt.read {w w' : World} {x b : Nat} {v : Value} {s : ByteArray} {a a' : Nat} {out : List Nat} {most : Nat} (h : StAt w x b v s a out most) (hU : Upd [b] w w') (hR : RdAt w' b 123 s a' false) : StAt w' x b v s a' out most :=
  { h with blk := h.blk.upd hU (by have := h.xb; simpa using this), row := Row.upd h.row hU (fun k hk hm => by simp at hm; exact h.vb (by rw [hk, hm])), rd := hR }
theorem StAt.pure {w w' : World} {x b : Nat} {v : Value} {s : ByteArray} {a : Nat} {out : List Nat} {most : Nat} (h : StAt w x b v s a out most) (hU : Upd [] w w') : StAt w' x b v s a out most :=
  { h with blk := h.blk.upd hU (by simp), row := Row.upd h.row hU (by simp), rd := h.rd.upd hU (by simp) }
theorem upd_st {w w' : World} {x b : Nat} {v : Value} (h : Upd [b] w w') : Upd (stFp x b v) w w' := h.mono (fun k hk => .inl (by simp at hk; simp [stFp, hk]))
theorem StAt.push {wr wm w9 : World} {x b : Nat} {v v9 : Value} {s : ByteArray} {a : Nat} {out : List Nat} {most : Nat} (h : StAt wr x b v s a out most) (hm : Upd [] wr wm) {n : Nat} (ys : List Nat) (hR : Row w9 5 1 v9 n (u8s out ++ u8s ys)) (hU : Upd v.ownBlock.toList wm w9) (hT : Later wm v v9) (hle : out.length + ys.length ≤ most) (hlt : ∀ y ∈ ys, y < 256) :
    StAt (w9.setCell ⟨x, 1, none⟩ v9) x b v9 s a (out ++ ys) most ∧ Upd (stFp x b v) wr (w9.setCell ⟨x, 1, none⟩ v9) ∧ Later wr v v9 := by
  have hT' : Later wr v v9 := hT.imp id fun ⟨g, h1, h2⟩ => ⟨g, h1, Nat.le_trans hm.size h2⟩
  have hUw : Upd (stFp x b v) wr w9 := (hm.mono (by simp)).then (hU.mono fun k hk => .inl (by simp [stFp, hk]))
  have hx : x ∉ v.ownBlock.toList := by have := h.vx; simpa [eq_comm] using this
  have hb : b ∉ v.ownBlock.toList := by have := h.vb; simpa [eq_comm] using this
  have hxlt := h.blk.lt
  have hblt := h.rd.1.lt
  have hvx := hT'.ne hxlt h.vx
  have hvb := hT'.ne hblt h.vb
  have hn : n = (out ++ ys).length := by have := hR.len; simp [length_u8s] at this ⊢; omega
  have hB9 := (h.blk.upd hm (by simp)).upd hU hx
  have hR' := (h.rd.upd hm (by simp)).upd hU hb
  refine ⟨⟨hB9.set 1 v9, ?_, hR'.upd ((Upd.refl [x] w9).setCell (.inl (by simp)) v9) (by have := h.xb; simp; omega), hvx, hvb, h.xb, by simpa using hle, h.cap, ?_⟩, hUw.setCell (.inl (by simp [stFp])) v9, hT'⟩
  · rw [u8s_append, ← hn]; exact hR.setFar v9 hvx
  · intro y hy
    rcases List.mem_append.1 hy with hy | hy
    · exact h.lt y hy
    · exact hlt y hy
end Go.Proofs.YtdehkaknbmbieaaGreat
namespace Go.Proofs.YtdehkaknbmbieaaGreat
set_option linter.unusedVariables false
set_option linter.unusedSimpArgs false
set_option linter.unusedSectionVars false
open Go.RowKit
set_option linter.unusedVariables false

def symStep (l2 : List Int) (s : ByteArray) (most : Nat) (k : List Nat → Nat → Except Nat (List Nat × Nat)) (out : List Nat) (r : Nat × Nat) : Except Nat (List Nat × Nat) :=
  if r.1 = 256 then .ok (out, r.2) else
    if r.1 < 256 then (if out.length + 1 ≤ most then k (out ++ [r.1]) r.2 else .error 4) else
      copyP l2 s most r.1 out r.2 >>= fun q => k q.1 q.2
def symsP (l1 l2 : List Int) (s : ByteArray) (most : Nat) : Nat → List Nat → Nat → Except Nat (List Nat × Nat)
  | 0, _, _ => .error 0
  | g + 1, out, a => nextP l1 s a >>= symStep l2 s most (symsP l1 l2 s most g) out

theorem nxtF_adv {n : List Nat} {s : ByteArray} {f k a c x : Nat} (h : (nxtF n s f k a c).1 = some x) : a < (nxtF n s f k a c).2.1 := by
  induction f generalizing k a c with
  | zero => cases h
  | succ f ih =>
    by_cases h1 : a < 8 * s.size
    · cases hx : symAt n k (2 * c + rdVal s a 1) with
      | some y => rw [nxtF_some h1 hx]; exact Nat.lt_succ_self a
      | none => rw [nxtF_none h1 hx] at h ⊢; exact Nat.lt_trans (Nat.lt_succ_self a) (ih h)
    · rw [nxtF_end h1] at h; cases h
theorem nextP_adv {l : List Int} {s : ByteArray} {a x a' : Nat} (h : nextP l s a = .ok (x, a')) : a < a' := by
  unfold nextP at h
  split at h
  · cases h
  · have hA := fun x => @nxtF_adv (nats l) s 15 1 a 0 x
    have e : nxt (nats l) s a false = nxtF (nats l) s 15 1 a 0 := rfl
    rw [e] at h
    generalize nxtF (nats l) s 15 1 a 0 = rr at *
    obtain ⟨o, a2, bad⟩ := rr
    cases o with
    | some y => have := hA y rfl; cases h; exact this
    | none => cases bad <;> cases h
theorem takeP_adv {s : ByteArray} {a n v a' : Nat} (h : takeP s a n = .ok (v, a')) : a ≤ a' := by
  unfold takeP at h
  split at h
  · cases h; omega
  · cases h
theorem copyP_adv {l2 : List Int} {s : ByteArray} {most sym : Nat} {out out' : List Nat} {a a' : Nat} (h : copyP l2 s most sym out a = .ok (out', a')) : a ≤ a' := by
  unfold copyP at h
  split at h
  · cases h
  · cases h1 : takeP s a (longB (sym : Nat)).toNat with
    | error c => rw [h1] at h; cases h
    | ok r1 =>
      rw [h1] at h
      have h1' := takeP_adv h1
      replace h : copyLong l2 s most sym out r1 = .ok (out', a') := h
      unfold copyLong at h
      split at h
      · cases h
      · cases h2 : nextP l2 s r1.2 with
        | error c => rw [h2] at h; cases h
        | ok r2 =>
          rw [h2] at h
          have h2' := nextP_adv h2
          rename_i long _
          replace h : copyBack s most long out r2 = .ok (out', a') := h
          unfold copyBack at h
          split at h
          · cases h
          · cases h3 : takeP s r2.2 (backB (r2.1 : Nat)).toNat with
            | error c => rw [h3] at h; cases h
            | ok r3 =>
              rw [h3] at h
              have h3' := takeP_adv h3
              replace h : copyEnd most long out r2.1 r2.2 r3 = .ok (out', a') := h
              unfold copyEnd at h
              split at h
              · cases h
              · split at h
                · split at h
                  · cases h; omega
                  · cases h
                · cases h

/-- A decoder that was made behind w0, for lengths. -/
def DecNew (w0 w : World) (dv : Value) (l : List Int) : Prop :=
  (dv = .pointer none ∧ (kindOf l = 3 ∨ kindOf l = 0)) ∨ (kindOf l ≠ 3 ∧ kindOf l ≠ 0 ∧ ∃ d v, dv = .pointer (some ⟨d, 0, none⟩) ∧ DcAt w d v (nats l) ∧ w0.heap.size ≤ d ∧ ∀ k, v.ownBlock = some k → w0.heap.size ≤ k)
theorem DecNew.upd {w0 w w' : World} {dv : Value} {l : List Int} {fp : List Nat} (h : DecNew w0 w dv l) (hU : Upd fp w w') (hf : ∀ k ∈ fp, k < w0.heap.size) : DecNew w0 w' dv l := by
  rcases h with h | ⟨h1, h2, d, v, e, hD, h3, h4⟩
  · exact .inl h
  · exact .inr ⟨h1, h2, d, v, e, hD.upd hU (fun hm => by have := hf _ hm; omega) (fun k hk hm => by have := hf _ hm; have := h4 k hk; omega), h3, h4⟩
theorem DecNew.for {w0 w : World} {dv : Value} {l : List Int} {b : Nat} (h : DecNew w0 w dv l) (hb : b < w0.heap.size) : DecFor w dv l b := by
  rcases h with h | ⟨h1, h2, d, v, e, hD, h3, h4⟩
  · exact .inl h
  · exact .inr ⟨h1, h2, d, v, e, hD, by omega, fun hm => by have := h4 b hm; omega⟩
theorem DecNew.back {w0 w1 w : World} {dv : Value} {l : List Int} (h : DecNew w1 w dv l) (hs : w0.heap.size ≤ w1.heap.size) : DecNew w0 w dv l := by
  rcases h with h | ⟨h1, h2, d, v, e, hD, h3, h4⟩
  · exact .inl h
  · exact .inr ⟨h1, h2, d, v, e, hD, by omega, fun k hm => by have := h4 k hm; omega⟩
/-- What the rounds keep. -/
def SymsRel (w0 w : World) (x b : Nat) (v0 v : Value) (s : ByteArray) (a : Nat) (out : List Nat) (most : Nat) : Prop :=
  StAt w x b v s a out most ∧ Upd (stFp x b v0) w0 w ∧ Later w0 v0 v
theorem SymsRel.next {w0 w w' : World} {x b : Nat} {v0 v v' : Value} {s : ByteArray} {a a' : Nat} {out out' : List Nat} {most : Nat} (h : SymsRel w0 w x b v0 v s a out most) (hS : StAt w' x b v' s a' out' most) (hU : Upd (stFp x b v) w w') (hT : Later w v v') : SymsRel w0 w' x b v0 v' s a' out' most :=
  ⟨hS, h.2.1.trans hU (fun k hk => by
      simp only [stFp, List.mem_cons] at hk ⊢
      rcases hk with hk | hk | hk
      · exact .inl (.inl hk)
      · exact .inl (.inr (.inl hk))
      · exact (h.2.2.fp k hk).imp (fun h => .inr (.inr h)) id), h.2.2.trans h.2.1.size hT⟩
theorem SymsRel.read {w0 w w' : World} {x b : Nat} {v0 v : Value} {s : ByteArray} {a a' : Nat} {out : List Nat} {most : Nat} (h : SymsRel w0 w x b v0 v s a out most) (hU : Upd [b] w w') (hR : RdAt w' b 123 s a' false) : SymsRel w0 w' x b v0 v s a' out most :=
  ⟨h.1.read hU hR, h.2.1.then (upd_st hU), h.2.2⟩
end Go.Proofs.YtdehkaknbmbieaaGreat
namespace Go.Proofs.YtdehkaknbmbieaaGreat
set_option linter.unusedVariables false
set_option linter.unusedSimpArgs false
set_option linter.unusedSectionVars false
open Go.RowKit
set_option linter.unusedVariables false

def storeEnd (s : ByteArray) (most : Nat) (out : List Nat) (n : Nat) (r : Nat × Nat) : Except Nat (List Nat × Nat) :=
  if r.1 = 65535 - n then
    (if txBad s r.2 false (n : Nat) = true then .error 3 else if out.length + n ≤ most then .ok (out ++ bytesOf (txStr s r.2 false (n : Nat)), txTo s r.2 false (n : Nat)) else .error 4)
  else .error 2
def storeP (s : ByteArray) (most : Nat) (out : List Nat) (a : Nat) : Except Nat (List Nat × Nat) :=
  takeP s (alTo a false) 16 >>= fun r => takeP s r.2 16 >>= storeEnd s most out r.1

end Go.Proofs.YtdehkaknbmbieaaGreat
namespace Go.Proofs.YtdehkaknbmbieaaGreat
set_option linter.unusedVariables false
set_option linter.unusedSimpArgs false
set_option linter.unusedSectionVars false
open Go.RowKit
set_option linter.unusedVariables false

theorem IntsIn.far {w w' : World} {a : Option Addr} {len : Nat} {l : List Int} {fp : List Nat} (h : IntsIn w a len l) (hU : Upd fp w w') (hf : ∀ k ∈ fp, w.heap.size ≤ k) : IntsIn w' a len l :=
  ⟨h.len, fun i hi => by
    obtain ⟨b, off, e, c, r⟩ := h.cell i hi
    have hb : b < w.heap.size := World.block_lt_of_cell? w _ c
    exact ⟨b, off, e, (hU.at hb (fun hm => by have := hf b hm; omega) _).trans c, r⟩⟩

theorem val_pad (L : List Bool) (k a n : Nat) : val (((L ++ List.replicate k false).drop a).take n) = val ((L.drop a).take n) := by
  rw [List.drop_append, List.take_append, val_append, List.drop_replicate, List.take_replicate, val_replicate_false]; simp
theorem textBits_outs (L : List Bool) (m : Nat) (h : 8 * m ≤ L.length) : textBits (outs L m) = L.take (8 * m) := by
  induction m with
  | zero => simp [outs, textBits]
  | succ m ih =>
    rw [outs_succ, textBits_snoc, ih (by omega)]
    have h1 : ((L.drop (8 * m)).take 8).length = 8 := by rw [List.length_take, List.length_drop]; omega
    have h2 := low_val ((L.drop (8 * m)).take 8)
    rw [h1] at h2
    rw [chunk, h2, ← List.take_add]; rfl
theorem textBits_pack (L : List Bool) : textBits (pack L) = alignL L := by
  have e : pack L = outs (alignL L) ((L.length + 7) / 8) := by
    unfold pack outs
    apply List.map_congr_left
    intro i _
    unfold chunk alignL
    rw [val_pad]
  rw [e, textBits_outs _ _ (by rw [length_alignL]; omega), ← length_alignL, List.take_length]
theorem pack_lt (L : List Bool) : ∀ x ∈ pack L, x < 256 := outs_lt L _
theorem sbits_pack (L : List Bool) : sbits (strOf (pack L)) = alignL L := by
  rw [sbits, bytesOf_strOf _ (pack_lt L), textBits_pack]
theorem size_pack (L : List Bool) : (strOf (pack L)).size = (L.length + 7) / 8 := by rw [size_strOf, pack, length_outs]
/-- A number read out of what was written. -/
theorem rdVal_mid (A M B : List Bool) (n a : Nat) (h : a + n ≤ M.length) : rdVal (strOf (pack (A ++ M ++ B))) (A.length + a) n = val ((M.drop a).take n) := by
  unfold rdVal
  rw [sbits_pack, alignL, List.append_assoc, List.append_assoc, ← List.drop_drop, List.drop_left, List.drop_append_of_le_length (by omega), List.take_append_of_le_length (by rw [List.length_drop]; omega)]

theorem turnN_div (v k j : Nat) (h : j ≤ k) : turnN v k / 2 ^ j = turnN v (k - j) := by
  induction j with
  | zero => simp
  | succ j ih =>
    rw [Nat.pow_succ, ← Nat.div_div_eq_div_mul, ih (by omega)]
    have e : turnN v (k - j) = 2 * turnN v (k - (j + 1)) + v / 2 ^ (k - (j + 1)) % 2 := by
      rw [show k - j = (k - (j + 1)) + 1 by omega]; rfl
    have : v / 2 ^ (k - (j + 1)) % 2 < 2 := Nat.mod_lt _ (by omega)
    omega
theorem turnN_bit (v k j : Nat) (h : j < k) : turnN v k / 2 ^ j % 2 = v / 2 ^ (k - 1 - j) % 2 := by
  rw [turnN_div v k j (by omega), show k - j = (k - 1 - j) + 1 by omega]
  simp only [turnN]
  omega
theorem fst_grow (n : List Nat) (j m : Nat) : 2 ^ (m + 1) * (fst n j + cnt n j) ≤ fst n (j + m + 1) := by
  induction m with
  | zero => simp [fst]
  | succ m ih =>
    have e : fst n (j + (m + 1) + 1) = 2 * (fst n (j + m + 1) + cnt n (j + m + 1)) := rfl
    rw [e, Nat.pow_succ, Nat.mul_comm (2 ^ (m + 1)) 2, Nat.mul_assoc]
    omega
/-- A code's beginning lies behind all shorter codes. -/
theorem code_above (n : List Nat) (k j c : Nat) (hj : j < k) (hc : fst n k ≤ c) : fst n j + cnt n j ≤ c / 2 ^ (k - j) := by
  have h := fst_grow n j (k - j - 1)
  rw [show j + (k - j - 1) + 1 = k by omega, show k - j - 1 + 1 = k - j by omega] at h
  rw [Nat.le_div_iff_mul_le (Nat.two_pow_pos _), Nat.mul_comm]
  omega
theorem half_bit (c m : Nat) : 2 * (c / 2 ^ (m + 1)) + c / 2 ^ m % 2 = c / 2 ^ m := by
  rw [Nat.pow_succ, ← Nat.div_div_eq_div_mul]; omega
/-- A symbol's code is read as the symbol. -/
theorem nxtF_code (n : List Nat) (s : ByteArray) (S k c a : Nat) (hk : n.getD S 0 = k) (hk1 : 1 ≤ k) (hS : S < n.length) (hc : codeAt n S = c)
    (hb : ∀ j, j < k → rdVal s (a + j) 1 = c / 2 ^ (k - 1 - j) % 2) (hs : a + k ≤ 8 * s.size) :
    ∀ d j f, d + j + 1 = k → d + 1 ≤ f → nxtF n s f (j + 1) (a + j) (c / 2 ^ (d + 1)) = (some S, a + k, false) := by
  have hfc : fst n k ≤ c := by
    rw [← hc]; unfold codeAt; rw [hk, if_neg (by omega)]; omega
  intro d
  induction d with
  | zero =>
    intro j f hj hf
    obtain ⟨f, rfl⟩ : ∃ f', f = f' + 1 := ⟨f - 1, by omega⟩
    have e : 2 * (c / 2 ^ (0 + 1)) + rdVal s (a + j) 1 = c := by
      rw [hb j (by omega), show k - 1 - j = 0 by omega, half_bit]; simp
    have hsy : symAt n (j + 1) c = some S := by
      rw [show j + 1 = k by omega, ← hc]; exact symAt_code n S k hk1 hS hk
    rw [nxtF_some (by omega) (by rw [e]; exact hsy)]
    have : a + j + 1 = a + k := by omega
    rw [this]
  | succ d ih =>
    intro j f hj hf
    obtain ⟨f, rfl⟩ : ∃ f', f = f' + 1 := ⟨f - 1, by omega⟩
    have e : 2 * (c / 2 ^ (d + 1 + 1)) + rdVal s (a + j) 1 = c / 2 ^ (d + 1) := by
      rw [hb j (by omega), show k - 1 - j = d + 1 by omega, half_bit]
    have hab := code_above n k (j + 1) c (by omega) hfc
    rw [show k - (j + 1) = d + 1 by omega] at hab
    have hsy : symAt n (j + 1) (c / 2 ^ (d + 1)) = none := symAt_none' _ _ _ (by omega)
    rw [nxtF_none (by omega) (by rw [e]; exact hsy), e, Nat.add_assoc a j 1]
    exact ih (j + 1) f (by omega) (by omega)
theorem val_bit1 (k t j : Nat) (h : j < k) : val (((low k t).drop j).take 1) = t / 2 ^ j % 2 := by
  rw [val_take _ _ (by rw [List.length_drop, length_low]; omega), val_drop _ _ (by rw [length_low]; omega), val_low]
  have e : 2 ^ k = 2 ^ j * 2 ^ (k - j) := by rw [← Nat.pow_add]; congr 1; omega
  rw [e, Nat.mod_mul_right_div_self, show k - j = (k - j - 1) + 1 by omega, Nat.pow_succ, Nat.pow_one, Nat.mod_mul_left_mod]
/-- Of written symbols the one behind A is read. -/
theorem nxt_back (n : List Nat) (A B : List Bool) (S : Nat) (hps : psum n 16 ≤ 32768) (h15 : ∀ x ∈ n, x ≤ 15) (hS : S < n.length) (h0 : n.getD S 0 ≠ 0) :
    nxt n (strOf (pack (A ++ symBits n S ++ B))) A.length false = (some S, (A ++ symBits n S).length, false) := by
  have hc := codeAt_lt n hps h15 S hS
  have hk15 : n.getD S 0 ≤ 15 := by rw [List.getD, List.getElem?_eq_getElem hS]; exact h15 _ (List.getElem_mem hS)
  have h := nxtF_code n (strOf (pack (A ++ symBits n S ++ B))) S (n.getD S 0) (codeAt n S) A.length rfl (by omega) hS rfl (fun j hj => by
      rw [rdVal_mid _ _ _ _ _ (by rw [length_symBits]; omega), symBits, val_bit1 _ _ _ hj, turnN_bit _ _ _ hj])
    (by rw [size_pack, List.length_append, List.length_append, length_symBits]; omega) (n.getD S 0 - 1) 0 15 (by omega) (by omega)
  rw [show n.getD S 0 - 1 + 1 = n.getD S 0 by omega, Nat.div_eq_of_lt hc.2] at h
  rw [List.length_append, length_symBits]
  exact h

end Go.Proofs.YtdehkaknbmbieaaGreat

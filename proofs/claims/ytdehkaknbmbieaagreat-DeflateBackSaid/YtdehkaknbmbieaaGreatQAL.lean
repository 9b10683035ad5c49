/- Package lz: Long: its walk. -/
import Derived.Deep.QuietTactic
import Derived.BigQuiet
import Derived.Test.YtdehkaknbmbieaaGreatQAK
import Derived.RangeFuncNested
import Derived.RangeFuncBound
import Derived.RangeFuncCalls
import Derived.RangeFuncLeaves
import Derived.Test.YtdehkaknbmbieaaGreatQAC
namespace Go.Proofs.YtdehkaknbmbieaaGreat
set_option linter.unusedVariables false
set_option linter.unusedSimpArgs false
set_option linter.unusedSectionVars false
open Go.RowKit
attribute [local go_sem] Oper.semAt_some
set_option linter.unusedVariables false
set_option linter.unusedSimpArgs false

/-- So many bytes behind i are those that stand b ahead of each. -/
def SameB (S : ByteArray) (i b m : Nat) : Prop := 1 ≤ b ∧ b ≤ i ∧ m ≤ 258 ∧ i + m ≤ S.size ∧ ∀ k, k < m → ∀ (h1 : i + k < S.size) (h2 : i + k - b < S.size), S[i + k] = S[i + k - b]
/-- How many bytes are alike, from m on. -/
def runN (bs : List Nat) (i b : Nat) : Nat → Nat → Nat
  | 0, m => m
  | f + 1, m => if i + m < bs.length ∧ bs.getD (i + m) 0 = bs.getD (i + m - b) 0 then runN bs i b f (m + 1) else m
def lzN (S : ByteArray) (i : Nat) (B : Int) : Nat := if B < 1 ∨ (i : Int) < B then 0 else runN (bytesOf S) i B.toNat 258 0
theorem bytesOf_getD (S : ByteArray) (p : Nat) (h : p < S.size) : (bytesOf S).getD p 0 = S[p].toNat := by
  have h' : p < (bytesOf S).length := by rw [length_bytesOf]; exact h
  rw [List.getD_eq_getElem?_getD, List.getElem?_eq_getElem h', Option.getD_some, bytesOf_get S p h h']
theorem runN_ok (S : ByteArray) (i b : Nat) : ∀ (f m : Nat), m + f ≤ 258 → SameB S i b m → SameB S i b (runN (bytesOf S) i b f m)
  | 0, m, _, h => h
  | f + 1, m, hf, h => by
    unfold runN
    split
    · rename_i hc
      obtain ⟨x1, x2, x3, x4, x5⟩ := h
      obtain ⟨hc1, hc2⟩ := hc
      rw [length_bytesOf] at hc1
      refine runN_ok S i b f (m + 1) (by omega) ⟨x1, x2, by omega, by omega, fun k hk h1 h2 => ?_⟩
      by_cases hkm : k < m
      · exact x5 k hkm h1 h2
      · obtain rfl : k = m := by omega
        rw [bytesOf_getD S _ h1, bytesOf_getD S _ h2] at hc2
        exact UInt8.toNat_inj.1 hc2
    · exact h
theorem lzN_ok (S : ByteArray) (i : Nat) (B : Int) (hi : i ≤ S.size) : lzN S i B ≤ 258 ∧ (lzN S i B = 0 ∨ SameB S i B.toNat (lzN S i B) ∧ 1 ≤ B) := by
  unfold lzN
  split
  · exact ⟨by omega, .inl rfl⟩
  · rename_i h
    have h := runN_ok S i B.toNat 258 0 (by omega) ⟨by omega, by omega, by omega, by omega, fun k hk => by omega⟩
    exact ⟨h.2.2.1, .inr ⟨h, by omega⟩⟩
def LzLongP (S : ByteArray) (i : Nat) (B : Int) (w : World) (e : Ending) (w' : World) : Prop := e = .returned (.int .i64 (lzN S i B : Nat)) ∧ ∃ q, w' = w.drewN q
set_option maxRecDepth 100000 in
set_option maxHeartbeats 3200000 in
theorem lzlong_any (S : ByteArray) (i : Nat) (B : Int) (w : World) (hs : S.size ≤ 65000) (hi : i ≤ S.size) (hB : -9223372036854775808 ≤ B ∧ B ≤ 9223372036854775807) :
    Calls Tryz.prog 103 #[.string S, .int .i64 (i : Nat), .int .i64 B] w fun e w' => LzLongP S i B w e w' := by
  have t1 : ¬ (i : Int) < 0 := by omega
  have t2 : ¬ (S.size : Int) < (i : Int) := by omega
  have HZ : Hid ((B < 1 ∨ (i : Int) < B) → lzN S i B = 0) := Lib.hid (fun h => by unfold lzN; rw [if_pos h])
  have HV : Hid (¬ (B < 1 ∨ (i : Int) < B) → lzN S i B = runN (bytesOf S) i B.toNat 258 0) := Lib.hid (fun h => by unfold lzN; rw [if_neg h])
  obtain ⟨LN, hLN⟩ : ∃ LN, lzN S i B = LN := ⟨_, rfl⟩
  rw [hLN] at HZ HV
  have HLN := Lib.hid hLN
  clear hLN
  go_enter Tryz.func103, Tryz.ntmps103
  by_cases h1 : B < 1
  · go_wp2
    go_ret
    exact ⟨by rw [HLN.out, HZ.out (.inl h1)]; rfl, 0, rfl⟩
  · by_cases h2 : (i : Int) < B
    · go_wp2
      go_ret
      exact ⟨by rw [HLN.out, HZ.out (.inr h2)]; rfl, 0, rfl⟩
    · obtain ⟨b, rfl⟩ : ∃ b : Nat, B = (b : Int) := ⟨B.toNat, by omega⟩
      have HVV : Hid (LN = runN (bytesOf S) i b 258 0) := Lib.hid (HV.out (by omega))
      have hb1 : 1 ≤ b := by omega
      have hbi : b ≤ i := by omega
      go_wp2
      go_loopg [7] 258 (fun gg s7 wr => ∃ m : Nat, m ≤ 258 ∧ gg = 258 - m ∧ s7 = .int .i64 (m : Nat) ∧ Hid (LN = runN (bytesOf S) i b (258 - m) m) ∧ Hid (∃ q, wr = w.drewN q))
      case atStart => exact ⟨0, by omega, by omega, rfl, HVV, Lib.hid ⟨0, rfl⟩⟩
      case round =>
        obtain ⟨m, hm, rfl, rfl, HS, HU⟩ := hrel
        have hsub : IntKind.i64.wrap ((S.size : Int) - (i : Int)) = (S.size : Int) - (i : Int) := by rw [IntWalk.i64_in _ (by omega)]
        by_cases c1 : m < 258
        · have d1 : decide ((m : Int) < 258) = true := decide_eq_true (by omega)
          by_cases c2 : i + m < S.size
          · have d2 : decide ((m : Int) < (S.size : Int) - (i : Int)) = true := decide_eq_true (by omega)
            obtain ⟨p, hp⟩ : ∃ p, i + m = p := ⟨_, rfl⟩
            have HP := Lib.hid hp
            have hpw : IntKind.i64.wrap ((i : Int) + (m : Int)) = (p : Int) := by rw [IntWalk.i64_in _ (by omega)]; omega
            obtain ⟨q, hq⟩ : ∃ q, p - b = q := ⟨_, rfl⟩
            have HQ := Lib.hid hq
            have hqw : IntKind.i64.wrap ((p : Int) - (b : Int)) = (q : Int) := by rw [IntWalk.i64_in _ (by omega)]; omega
            have hps : p < S.size := by omega
            have hqs : q < S.size := by omega
            have hpz : (p : Int) < (S.size : Int) := by omega
            have hqz : (q : Int) < (S.size : Int) := by omega
            have hw1 : IntKind.i64.wrap ((m : Int) + 1) = ((m + 1 : Nat) : Int) := by rw [IntWalk.i64_in _ (by omega)]; rfl
            clear hp hq
            by_cases he : S[p] = S[q]
            · have HE : Hid (LN = runN (bytesOf S) i b (258 - (m + 1)) (m + 1)) := Lib.hid (by
                have hp := HP.out
                have hq := HQ.out
                have h := HS.out
                rw [show 258 - m = (258 - (m + 1)) + 1 by omega] at h
                rw [h]
                show (if _ then _ else _) = _
                rw [if_pos ⟨by rw [length_bytesOf]; omega, by subst hp; subst hq; rw [bytesOf_getD S _ hps, bytesOf_getD S _ hqs, he]⟩])
              go_wp2_with fail
              go_quiet (fail)
              have HUq : Hid (∃ q, wr.drewN nq = w.drewN q) := Lib.hid (by obtain ⟨q, e⟩ := HU.out; exact ⟨q + nq, by rw [e, World.drewN_drewN]⟩)
              generalize wr.drewN nq = wq at *
              go_wp2
              go_roundg (258 - (m + 1))
              · exact ⟨m + 1, by omega, by first | rfl | omega, by first | rfl | go_num, HE, HUq⟩
              · omega
            · have hne : ¬ ((S[p].toNat : Nat) : Int) = ((S[q].toNat : Nat) : Int) := fun h => he (UInt8.toNat_inj.1 (by omega))
              have hned : decide (((S[p].toNat : Nat) : Int) = ((S[q].toNat : Nat) : Int)) = false := decide_eq_false hne
              go_wp2_with fail
              go_quiet (fail)
              have HUq : Hid (∃ q, wr.drewN nq = w.drewN q) := Lib.hid (by obtain ⟨q, e⟩ := HU.out; exact ⟨q + nq, by rw [e, World.drewN_drewN]⟩)
              generalize wr.drewN nq = wq at *
              go_wp2
              go_ret
              have h1 := HS.out
              have hp := HP.out
              have hq := HQ.out
              rw [show 258 - m = (258 - (m + 1)) + 1 by omega] at h1
              have h2 : LN = m := by rw [h1]; show (if _ then _ else _) = _; rw [if_neg (by subst hp; subst hq; rw [bytesOf_getD S _ hps, bytesOf_getD S _ hqs]; intro hh; exact he (UInt8.toNat_inj.1 hh.2))]
              exact ⟨by rw [HLN.out, h2]; rfl, HUq.out⟩
          · have d2 : decide ((m : Int) < (S.size : Int) - (i : Int)) = false := decide_eq_false (by omega)
            go_wp2_with fail
            go_quiet (fail)
            have HUq : Hid (∃ q, wr.drewN nq = w.drewN q) := Lib.hid (by obtain ⟨q, e⟩ := HU.out; exact ⟨q + nq, by rw [e, World.drewN_drewN]⟩)
            generalize wr.drewN nq = wq at *
            go_wp2
            go_ret
            have h1 := HS.out
            rw [show 258 - m = (258 - (m + 1)) + 1 by omega] at h1
            have h2 : LN = m := by rw [h1]; show (if _ then _ else _) = _; rw [if_neg (by rw [length_bytesOf]; intro hh; exact c2 hh.1)]
            exact ⟨by rw [HLN.out, h2]; rfl, HUq.out⟩
        · have d1 : decide ((m : Int) < 258) = false := decide_eq_false (by omega)
          go_wp2_with fail
          go_quiet (fail)
          have HUq : Hid (∃ q, wr.drewN nq = w.drewN q) := Lib.hid (by obtain ⟨q, e⟩ := HU.out; exact ⟨q + nq, by rw [e, World.drewN_drewN]⟩)
          generalize wr.drewN nq = wq at *
          go_wp2
          go_ret
          have h1 := HS.out
          obtain rfl : m = 258 := by omega
          exact ⟨by rw [HLN.out, h1]; rfl, HUq.out⟩
end Go.Proofs.YtdehkaknbmbieaaGreat
namespace Go.Proofs.YtdehkaknbmbieaaGreat
set_option linter.unusedVariables false
set_option linter.unusedSimpArgs false
set_option linter.unusedSectionVars false
open Go.RowKit

/-- The blocks ks lie as they lay. -/
def Keep (ks : List Nat) (W W' : World) : Prop := W.heap.size ≤ W'.heap.size ∧ ∀ k ∈ ks, W'.heap[k]? = W.heap[k]?
theorem Keep.refl (ks : List Nat) (W : World) : Keep ks W W := ⟨Nat.le_refl _, fun _ _ => rfl⟩
theorem Keep.trans {ks : List Nat} {A B C : World} (h : Keep ks A B) (k : Keep ks B C) : Keep ks A C := ⟨Nat.le_trans h.1 k.1, fun i hi => (k.2 i hi).trans (h.2 i hi)⟩
theorem Keep.putObj {ks : List Nat} {W : World} {l : Nat} (o : Obj) (hl : ∀ k ∈ ks, k ≠ l) : Keep ks W (W.putObj l o) := ⟨by simp, fun k hk => World.putObj_heap_other (hl k hk)⟩
theorem Keep.of_upd {ks fp : List Nat} {W W' : World} (h : Upd fp W W') (hk : ∀ k ∈ ks, k < W.heap.size ∧ k ∉ fp) : Keep ks W W' := ⟨h.size, fun k hm => h.block k (hk k hm).1 (hk k hm).2⟩
/-- What the iterator does of its own: it writes the blocks fp, and lays new ones. -/
def Own2 (fp : List Nat) (A B : World) : Prop := Upd fp A B ∧ KeepsOthers A B
theorem Own2.refl (fp : List Nat) (A : World) : Own2 fp A A := ⟨Upd.refl _ _, KeepsOthers.refl _⟩
theorem Own2.trans {fp : List Nat} {A B C : World} (h : Own2 fp A B) (k : Own2 fp B C) : Own2 fp A C := ⟨h.1.then k.1, h.2.trans k.2⟩
theorem Blk.cellsOnly {w : World} {b : Nat} {cs : List Value} {t : TypeId} (h : Blk w b cs t) : ∀ o, w.heap[b]? = some o → o.isCells = true := fun o ho => by
  unfold Blk at h; rw [h] at ho; cases ho; rfl
theorem Row.cellsOnly {w : World} {e : TypeId} {size : Nat} {v : Value} {n : Nat} {xs : List Value} (h : Row w e size v n xs) : ∀ g, v.ownBlock = some g → ∀ o, w.heap[g]? = some o → o.isCells = true := fun g hg o ho => by
  rcases h.2 with ⟨rfl, rfl⟩ | ⟨g', cap, cur, rfl, hb, hh, _⟩
  · simp [Value.ownBlock] at hg
  · simp [Value.ownBlock] at hg; subst hg; rw [hh] at ho; cases ho; rfl
theorem Upd.others {fp : List Nat} {w w' : World} (h : Upd fp w w') (hc : ∀ k, k ∈ fp → ∀ o, w.heap[k]? = some o → o.isCells = true) : KeepsOthers w w' :=
  ⟨h.size, fun k o ho hn => by
    by_cases hm : k ∈ fp
    · have := hc k hm o ho; rw [this] at hn; cases hn
    · exact (h.block k (Array.getElem?_eq_some_iff.1 ho).1 hm).trans ho⟩
theorem own2_of {fp fq : List Nat} {w w' : World} (h : Upd fq w w') (hs : ∀ k ∈ fq, k ∈ fp) (hc : ∀ k, k ∈ fq → ∀ o, w.heap[k]? = some o → o.isCells = true) : Own2 fp w w' := ⟨h.mono fun k hk => .inl (hs k hk), h.others hc⟩
theorem upd_ownF {β : Type} (B : Nat) (fp : List Nat) (w0 : World) (hB : w0.heap.size ≤ B) : OwnFrom B (fun (_ : β) W => Upd fp w0 W) := fun _ W W' row hs hg hr =>
  hs.grown hg (fun k hk => .inr (by have := (hr k hk).1; omega))
theorem blk_ownF {β : Type} (B b : Nat) (f : β → List Value) (t : TypeId) : OwnFrom B (fun s W => Blk W b (f s) t) := fun s W W' row hs hg hr =>
  Blk.grown hs hg (fun e => by obtain ⟨_, o, ho, hc⟩ := hr b e; rw [Blk.cellsOnly hs o ho] at hc; cases hc)
theorem Row.ownF {w w' : World} {e : TypeId} {size : Nat} {v : Value} {n : Nat} {xs : List Value} {row : Option Nat} {B : Nat} (h : Row w e size v n xs) (hg : w.grownBy w' row) (hr : ∀ r, row = some r → B ≤ r ∧ ∃ o : Obj, w.heap[r]? = some o ∧ o.isCells = false) : Row w' e size v n xs :=
  h.upd ((Upd.refl row.toList w).grown hg (fun k hk => .inl (by simp [hk]))) (fun k hk hm => by
    simp at hm; obtain ⟨_, o, ho, hc⟩ := hr k hm; rw [h.cellsOnly k hk o ho] at hc; cases hc)
def SeqW {α : Type} (P : Program) (g : Nat) (lb : Array Value) (encs : α → Array Value) (fp ks : List Nat) (S Sp : List α → Prop) (N : Nat) (w : World) : Prop :=
  ∀ (l : Nat) (J Jx : List α → World → Prop) (W : World), Upd [] w W → W.heap.size = w.heap.size + 2 → (∀ s A B, J s A → Own2 fp A B → J s B) → (∀ s A B, Jx s A → Own2 fp A B → Jx s B) →
    (∀ pre x W1, J pre W1 → pre.length < N → (∀ k ∈ fp, k < W1.heap.size) → YieldAt Fence.wide 7 P l (encs x) W1 fun e W' => (e = .returned (.bool true) ∧ J (pre ++ [x]) W' ∧ Keep ks W1 W') ∨ (e = .returned (.bool false) ∧ Jx (pre ++ [x]) W')) → J [] W →
    CallsIn Fence.wide 8 P g (#[.func (.yield l) #[] #[]] ++ lb) W fun e W' => (∃ v, e = .returned v) ∧ ((∃ xs, S xs ∧ J xs W') ∨ (∃ pre, Sp pre ∧ Jx pre W'))

section
variable {α : Type} {P : Program} {g : Operand} {ps : Array Tmp} {assign body : Code} {Q : Exit → Act → World → Prop} {a : Act} {w : World}
end
end Go.Proofs.YtdehkaknbmbieaaGreat
namespace Go.Proofs.YtdehkaknbmbieaaGreat
set_option linter.unusedVariables false
set_option linter.unusedSimpArgs false
set_option linter.unusedSectionVars false
open Go.RowKit

/-- As SeqW, with what may come next. -/
def SeqN {α : Type} (P : Program) (g : Nat) (lb : Array Value) (encs : α → Array Value) (fp ks : List Nat) (S Sp : List α → Prop) (Nx : List α → α → Prop) (w : World) : Prop :=
  ∀ (l : Nat) (J Jx : List α → World → Prop) (W : World), Upd [] w W → W.heap.size = w.heap.size + 2 → (∀ s A B, J s A → Own2 fp A B → J s B) → (∀ s A B, Jx s A → Own2 fp A B → Jx s B) →
    (∀ pre x W1, J pre W1 → Nx pre x → (∀ k ∈ fp, k < W1.heap.size) → YieldAt Fence.wide 7 P l (encs x) W1 fun e W' => (e = .returned (.bool true) ∧ J (pre ++ [x]) W' ∧ Keep ks W1 W') ∨ (e = .returned (.bool false) ∧ Jx (pre ++ [x]) W')) → J [] W →
    CallsIn Fence.wide 8 P g (#[.func (.yield l) #[] #[]] ++ lb) W fun e W' => (∃ v, e = .returned v) ∧ ((∃ xs, S xs ∧ J xs W') ∨ (∃ pre, Sp pre ∧ Jx pre W'))

section
variable {α : Type} {P : Program} {g : Operand} {ps : Array Tmp} {assign body : Code} {Q : Exit → Act → World → Prop} {a : Act} {w : World}
theorem loopN {gf : Nat} {lb : Array Value} (hg : a.eval g = .func (.func gf) #[] lb) (eg : ∀ args w, (callFunc gf args).run P w = .ok (.enter gf args) w)
    {encs : α → Array Value} {fp ks : List Nat} {S Sp : List α → Prop} {Nx : List α → α → Prop} (hseq : SeqN P gf lb encs fp ks S Sp Nx w) (hks : ∀ k ∈ ks, k ≠ w.heap.size + 1) (hps : ∀ x, (encs x).size = ps.size)
    (I : List α → World → Prop) (Ix : Code → List α → World → Prop) (Mid : List α → α → Act → World → Prop)
    (hI : OwnFrom w.heap.size I) (hIx : ∀ c, OwnFrom w.heap.size (Ix c)) (hMid : ∀ pre x a', OwnFrom w.heap.size (fun (_ : Unit) W => Mid pre x a' W))
    (hIw : ∀ s A B, I s A → Own2 fp A B → I s B) (hIxw : ∀ c s A B, Ix c s A → Own2 fp A B → Ix c s B) (h0 : I [] w)
    (hassign : ∀ (l : Nat) (pre : List α) (x : α) (W : World) (K : Act → World → Prop), I pre W → w.heap.size ≤ W.heap.size → (∀ k ∈ fp, k < W.heap.size) → (∀ a' W', KeepsFrom w.heap.size W W' → Keep ks W W' → Mid pre x a' W' → K a' W') →
      assign.wpIn (Fence.wide.inRound l) 7 P (Exit.then K (fun _ _ _ => False)) { tmps := (ps.zip (encs x)).foldl (fun t (p, v) => t.setIfInBounds p v) a.tmps, defers := [] } W)
    (hbody : ∀ (l : Nat) (pre : List α) (x : α) (a' : Act) (W : World), w.heap.size ≤ W.heap.size → Mid pre x a' W → Nx pre x →
      body.wpIn (Fence.wide.inRound l) 7 P (ownPostG w.heap.size (Keep ks) I Ix (pre ++ [x]) W) a' W)
    (hdone : ∀ (D : Nat) (xs : List α) (W : World), w.heap.size ≤ D → S xs → I xs W → W.heap[D]? = some (.deferred (some [])) → Q .normal { a with defers := { target := .collected D, args := #[] } :: a.defers } W)
    (hstop : ∀ (D : Nat) (c : Code) (pre : List α) (W : World), w.heap.size ≤ D → Sp pre → Ix c pre W → W.heap[D]? = some (.deferred (some [])) → c.wpIn Fence.wide 9 P Q { a with defers := { target := .collected D, args := #[] } :: a.defers } W) :
    (Code.rangeFunc g ps assign body).wpIn Fence.wide 9 P Q a w := by
  refine wpIn_rangeFunc fun fn hfn => ?_
  -- the record of this loop, by its state and its pending jump
  let rc : LoopState → Option Code → Loop := fun s p => { state := s, pending := p, fn, tmps := a.tmps, params := ps, assign, body, defers := w.heap.size }
  let wD := w.alloc (.deferred (some []))
  let wL := wD.alloc (.loop (rc .ready none))
  have zD : wD.heap.size = w.heap.size + 1 := by simp [wD]
  have recL : wL.heap[w.heap.size + 1]? = some (.loop (rc .ready none)) := by
    have := World.alloc_heap_new wD (.loop (rc .ready none)); rwa [zD] at this
  have defL : wL.heap[w.heap.size]? = some (.deferred (some [])) := (Below.heap_alloc wD _ _ (by omega)).trans (World.alloc_heap_new w _)
  have iL : I [] wL := hI.alloc _ (hI.alloc _ h0)
  have uL : Upd [] w wL := ((Upd.refl [] w).alloc _).alloc _
  refine ⟨w.heap.size + 1, [{ target := .collected w.heap.size, args := #[] }], wL, { target := .fn (.func gf) lb, args := #[.func (.yield (w.heap.size + 1)) #[] #[]] }, wL, gf, #[.func (.yield (w.heap.size + 1)) #[] #[]] ++ lb, wL, run_enterLoop_outer _ _ _ _ _, by simp only [resolve, hg]; simp [go_sem], fun _ _ => trivial, by simp [invoke, go_sem, eg], (fun _ => by omega), ?_⟩
  have kept : ∀ {A B : World} {k : Nat} {o : Obj}, Own2 fp A B → A.heap[k]? = some o → o.isCells = false → B.heap[k]? = some o := fun hAB h hc => hAB.2.same _ _ h hc
  refine (hseq (w.heap.size + 1)
    (fun s W => I s W ∧ W.heap[w.heap.size + 1]? = some (.loop (rc .ready none)) ∧ W.heap[w.heap.size]? = some (.deferred (some [])))
    (fun s W => ∃ c, Ix c s W ∧ W.heap[w.heap.size + 1]? = some (.loop (rc .done (some c))) ∧ W.heap[w.heap.size]? = some (.deferred (some [])))
    wL uL (by simp [wL, zD]) (fun s A B h hAB => ⟨hIw s A B h.1 hAB, kept hAB h.2.1 rfl, kept hAB h.2.2 rfl⟩)
    (fun s A B h hAB => by obtain ⟨c, h1, h2, h3⟩ := h; exact ⟨c, hIxw c s A B h1 hAB, kept hAB h2 rfl, kept hAB h3 rfl⟩) ?round ⟨iL, recL, defL⟩).mono ?behind
  case round =>
    rintro pre x W ⟨hi, hr, hd⟩ hlen hfp
    have hsz : w.heap.size ≤ W.heap.size := by have := (Array.getElem?_eq_some_iff.1 hr).1; omega
    refine ⟨fn, _, assign, body, run_yield (r := rc .ready none) hr (hps x), roundIn_of_wpIn hfn (hassign _ pre x W _ hi hsz hfp fun a' Wa hkf hkp hmid => ?_)⟩
    have hr1 := hkf.same _ _ (by omega) hr rfl
    have hd1 := hkf.same _ _ (Nat.le_refl _) hd rfl
    have hl1 : w.heap.size + 1 < Wa.heap.size := (Array.getElem?_eq_some_iff.1 hr1).1
    refine ⟨_, run_beginRound hr1 rfl, ?_⟩
    let Wb := Wa.putObj (w.heap.size + 1) (.loop (rc .busy none))
    have hr2 : Wb.heap[w.heap.size + 1]? = some (.loop (rc .busy none)) := World.putObj_heap_same hl1
    have hd2 : Wb.heap[w.heap.size]? = some (.deferred (some [])) := (World.putObj_heap_other (by omega)).trans hd1
    have hkb : Keep ks W Wb := hkp.trans (Keep.putObj _ fun k hk => hks k hk)
    have hmb : Mid pre x a' Wb := (hMid pre x a').putObj (s := ()) _ hmid (by omega) hr1 rfl
    refine wpIn_mono (hbody _ pre x a' Wb (by show w.heap.size ≤ (Wa.putObj _ _).heap.size; simp; omega) hmb hlen) fun e a3 W3 hp => ?_
    -- the round's end: the record takes the jump up
    have fin : ∀ (j : Option Code), KeepsFrom w.heap.size Wb W3 →
        (Instr.endRound (w.heap.size + 1) j).run P W3 = .ok (.bool j.isNone) (W3.putObj (w.heap.size + 1) (.loop (rc (if j.isNone then .ready else .done) j))) ∧ W3.heap[w.heap.size + 1]? = some (.loop (rc .busy none)) ∧
        (W3.putObj (w.heap.size + 1) (.loop (rc (if j.isNone then .ready else .done) j))).heap[w.heap.size + 1]? = some (.loop (rc (if j.isNone then .ready else .done) j)) ∧
        (W3.putObj (w.heap.size + 1) (.loop (rc (if j.isNone then .ready else .done) j))).heap[w.heap.size]? = some (.deferred (some [])) := fun j hk => by
      have hr3 := hk.same _ _ (by omega) hr2 rfl
      exact ⟨run_endRound j hr3, hr3, World.putObj_heap_same (Array.getElem?_eq_some_iff.1 hr3).1, (World.putObj_heap_other (by omega)).trans (hk.same _ _ (Nat.le_refl _) hd2 rfl)⟩
    have out : ∀ (c : Code), KeepsFrom w.heap.size Wb W3 ∧ Ix c (pre ++ [x]) W3 → ∃ v W4, (Instr.endRound (w.heap.size + 1) (some c)).run P W3 = .ok v W4 ∧
        ((Ending.returned v = .returned (.bool true) ∧ (I (pre ++ [x]) W4 ∧ W4.heap[w.heap.size + 1]? = some (.loop (rc .ready none)) ∧ W4.heap[w.heap.size]? = some (.deferred (some []))) ∧ Keep ks W W4) ∨
         (Ending.returned v = .returned (.bool false) ∧ ∃ c, Ix c (pre ++ [x]) W4 ∧ W4.heap[w.heap.size + 1]? = some (.loop (rc .done (some c))) ∧ W4.heap[w.heap.size]? = some (.deferred (some [])))) := fun c h => by
      obtain ⟨hrun, hr3, hr4, hd4⟩ := fin (some c) h.1
      exact ⟨_, _, hrun, .inr ⟨rfl, c, (hIx c).putObj _ h.2 (by omega) hr3 rfl, hr4, hd4⟩⟩
    cases e with
    | normal =>
      obtain ⟨hrun, hr3, hr4, hd4⟩ := fin none hp.1
      exact ⟨_, _, hrun, .inl ⟨rfl, ⟨hI.putObj _ hp.2.2 (by omega) hr3 rfl, hr4, hd4⟩, (hkb.trans hp.2.1).trans (Keep.putObj _ fun k hk => hks k hk)⟩⟩
    | ret => exact out .ret hp
    | exit id => exact out (.exit id) hp
    | goto t => exact out (.goto t) hp
    | panic ch => exact hp.elim
    | outgrown => exact hp.elim
  case behind =>
    rintro e W2 ⟨⟨v, rfl⟩, (⟨xs, hS, hi, hr, hd⟩ | ⟨pre, hSp, c, hi, hr, hd⟩)⟩
    · exact ⟨none, _, run_endLoop (r := rc .ready none) hr (by simp [rc]), hdone _ xs _ (Nat.le_refl _) hS (hI.putObj _ hi (by omega) hr rfl) ((World.putObj_heap_other (by omega)).trans hd)⟩
    · exact ⟨some c, _, run_endLoop (r := rc .done (some c)) hr (by simp [rc]), hstop _ c pre _ (Nat.le_refl _) hSp ((hIx c).putObj _ hi (by omega) hr rfl) ((World.putObj_heap_other (by omega)).trans hd)⟩
/-- The same, where the activation behind the assignment is known. -/
theorem loopNA {gf : Nat} {lb : Array Value} (hg : a.eval g = .func (.func gf) #[] lb) (eg : ∀ args w, (callFunc gf args).run P w = .ok (.enter gf args) w)
    {encs : α → Array Value} {fp ks : List Nat} {S Sp : List α → Prop} {Nx : List α → α → Prop} (hseq : SeqN P gf lb encs fp ks S Sp Nx w) (hks : ∀ k ∈ ks, k ≠ w.heap.size + 1) (hps : ∀ x, (encs x).size = ps.size)
    (I : List α → World → Prop) (Ix : Code → List α → World → Prop) (act : α → Act)
    (hI : OwnFrom w.heap.size I) (hIx : ∀ c, OwnFrom w.heap.size (Ix c)) (hIw : ∀ s A B, I s A → Own2 fp A B → I s B) (hIxw : ∀ c s A B, Ix c s A → Own2 fp A B → Ix c s B) (h0 : I [] w)
    (hassign : ∀ (l : Nat) (x : α) (W : World) (K : Act → World → Prop), K (act x) W →
      assign.wpIn (Fence.wide.inRound l) 7 P (Exit.then K (fun _ _ _ => False)) { tmps := (ps.zip (encs x)).foldl (fun t (p, v) => t.setIfInBounds p v) a.tmps, defers := [] } W)
    (hbody : ∀ (l : Nat) (pre : List α) (x : α) (W : World), w.heap.size ≤ W.heap.size → (∀ k ∈ fp, k < W.heap.size) → I pre W → Nx pre x →
      body.wpIn (Fence.wide.inRound l) 7 P (ownPostG w.heap.size (Keep ks) I Ix (pre ++ [x]) W) (act x) W)
    (hdone : ∀ (D : Nat) (xs : List α) (W : World), w.heap.size ≤ D → S xs → I xs W → W.heap[D]? = some (.deferred (some [])) → Q .normal { a with defers := { target := .collected D, args := #[] } :: a.defers } W)
    (hstop : ∀ (D : Nat) (c : Code) (pre : List α) (W : World), w.heap.size ≤ D → Sp pre → Ix c pre W → W.heap[D]? = some (.deferred (some [])) → c.wpIn Fence.wide 9 P Q { a with defers := { target := .collected D, args := #[] } :: a.defers } W) :
    (Code.rangeFunc g ps assign body).wpIn Fence.wide 9 P Q a w :=
  loopN hg eg hseq hks hps I Ix (fun pre x a' W => (I pre W ∧ ∀ k ∈ fp, k < W.heap.size) ∧ a' = act x) hI hIx
    (fun pre x a' _ A B row hs hg hr => ⟨⟨hI pre A B row hs.1.1 hg hr, fun k hk => Nat.lt_of_lt_of_le (hs.1.2 k hk) hg.size⟩, hs.2⟩) hIw hIxw h0
    (fun l pre x W K hi hsz hfp hK => hassign l x W K (hK _ _ (KeepsFrom.refl _ _) (Keep.refl _ _) ⟨⟨hi, hfp⟩, rfl⟩))
    (fun l pre x a' W hsz hm hlt => by obtain ⟨⟨h1, h2⟩, rfl⟩ := hm; exact hbody l pre x W hsz h2 h1 hlt) hdone hstop
end
theorem SeqN.wide {α : Type} {P : Program} {g : Nat} {lb : Array Value} {encs : α → Array Value} {fp ks : List Nat} {S Sp : List α → Prop} {Nx : List α → α → Prop} {N : Nat} {w : World} (h : SeqN P g lb encs fp ks S Sp Nx w) (hN : ∀ pre x, Nx pre x → pre.length < N) : SeqW P g lb encs fp ks S Sp N w :=
  fun l J Jx W hU hz hJ hJx hY h0 => h l J Jx W hU hz hJ hJx (fun pre x W1 h1 h2 h3 => hY pre x W1 h1 (hN pre x h2) h3) h0
end Go.Proofs.YtdehkaknbmbieaaGreat

/- Package name: plain: which bytes may begin a letter (UTF-8), and which texts are letters. -/
import Derived.RangeFuncNested
import Derived.RangeFuncBound
import Derived.RangeFuncCalls
import Derived.RangeFuncLeaves
import Derived.Test.YtigjingielnaoaaDoorQAA
namespace Go.Proofs.YtigjingielnaoaaDoor
set_option linter.unusedVariables false
set_option linter.unusedSimpArgs false
set_option linter.unusedSectionVars false

/-- How many bytes a letter has that begins so, and between which the second one is; 0: there is none. -/
def letterP (c : Nat) : Nat × Nat × Nat :=
  if c < 128 then (1, 0, 0) else if 194 ≤ c ∧ c ≤ 223 then (2, 128, 191) else if c = 224 then (3, 160, 191) else if c = 237 then (3, 128, 159)
  else if 225 ≤ c ∧ c ≤ 239 then (3, 128, 191) else if c = 240 then (4, 144, 191) else if 241 ≤ c ∧ c ≤ 243 then (4, 128, 191) else if c = 244 then (4, 128, 143) else (0, 0, 0)
/-- Are the bytes behind the first one such as its letter wants? -/
def tailOk (lo hi : Nat) : Nat → List Nat → Bool
  | 0, _ => true
  | _ + 1, [] => false
  | n + 1, b :: r => decide (lo ≤ b) && decide (b ≤ hi) && tailOk 128 191 n r
/-- Is a text letters? -/
def utfF : Nat → List Nat → Bool
  | 0, l => l.isEmpty
  | _ + 1, [] => true
  | f + 1, c :: r => decide ((letterP c).1 ≠ 0) && tailOk (letterP c).2.1 (letterP c).2.2 ((letterP c).1 - 1) r && utfF f (r.drop ((letterP c).1 - 1))
def utfP (l : List Nat) : Bool := utfF l.length l
theorem letterP_le (c : Nat) : (letterP c).1 ≤ 4 := by
  unfold letterP; repeat' split
  all_goals (dsimp only; omega)
/-- More fuel than bytes changes nothing. -/
theorem utfF_more : ∀ (f : Nat) (l : List Nat), l.length ≤ f → utfF f l = utfF l.length l
  | 0, l, h => by
    have : l = [] := List.eq_nil_of_length_eq_zero (by omega)
    subst this; rfl
  | f + 1, [], _ => rfl
  | f + 1, c :: r, h => by
    have hr : r.length ≤ f := by rw [List.length_cons] at h; omega
    have hd : (r.drop ((letterP c).1 - 1)).length ≤ r.length := by rw [List.length_drop]; omega
    show (decide ((letterP c).1 ≠ 0) && tailOk (letterP c).2.1 (letterP c).2.2 ((letterP c).1 - 1) r && utfF f (r.drop ((letterP c).1 - 1))) = (decide ((letterP c).1 ≠ 0) && tailOk (letterP c).2.1 (letterP c).2.2 ((letterP c).1 - 1) r && utfF r.length (r.drop ((letterP c).1 - 1)))
    rw [utfF_more f _ (by omega), utfF_more r.length _ hd]
  termination_by f _ _ => f
  decreasing_by all_goals (simp_wf; try (rw [List.length_cons] at *); omega)
theorem utfP_cons (c : Nat) (r : List Nat) : utfP (c :: r) = (decide ((letterP c).1 ≠ 0) && tailOk (letterP c).2.1 (letterP c).2.2 ((letterP c).1 - 1) r && utfP (r.drop ((letterP c).1 - 1))) := by
  show (decide ((letterP c).1 ≠ 0) && tailOk (letterP c).2.1 (letterP c).2.2 ((letterP c).1 - 1) r && utfF r.length (r.drop ((letterP c).1 - 1))) = _
  rw [utfF_more r.length _ (by rw [List.length_drop]; omega)]
  rfl
/-- A part of a path: its bytes, and its length. -/
def partOk (l : List Nat) : Bool := l.all (fun c => !(decide (c < 32) || decide (c = 127) || decide (c = 47) || decide (c = 92) || decide (c = 58))) && decide (1 ≤ l.length) && decide (l.length ≤ 60) && decide (l ≠ [46]) && decide (l ≠ [46, 46]) && utfP l
end Go.Proofs.YtigjingielnaoaaDoor
namespace Go.Proofs.YtigjingielnaoaaDoor
set_option linter.unusedVariables false
set_option linter.unusedSimpArgs false
set_option linter.unusedSectionVars false

/-- What stands between slashes. -/
def splitP : List Nat → List (List Nat)
  | [] => [[]]
  | c :: r => if c = 47 then [] :: splitP r else (c :: (splitP r).headD []) :: (splitP r).tail
theorem splitP_ne (l : List Nat) : splitP l ≠ [] := by
  cases l with
  | nil => simp [splitP]
  | cons c r => unfold splitP; split <;> simp
theorem splitP_ht (l : List Nat) : splitP l = (splitP l).headD [] :: (splitP l).tail := by
  cases h : splitP l with
  | nil => exact absurd h (splitP_ne l)
  | cons a b => rfl
/-- The front that has been read, laid ahead of the parts of what is left. -/
def joinP (s : List Nat) (L : List (List Nat)) : List (List Nat) := (s ++ L.headD []) :: L.tail
theorem splitP_mem : ∀ (l : List Nat) (p : List Nat), p ∈ splitP l → ∀ x ∈ p, x ∈ l
  | [], p, h, x, hx => by simp [splitP] at h; subst h; exact hx
  | c :: r, p, h, x, hx => by
    unfold splitP at h
    split at h
    · rcases List.mem_cons.1 h with rfl | h
      · simp at hx
      · exact List.mem_cons_of_mem _ (splitP_mem r p h x hx)
    · rcases List.mem_cons.1 h with rfl | h
      · rcases List.mem_cons.1 hx with rfl | hx
        · simp
        · refine List.mem_cons_of_mem _ (splitP_mem r ((splitP r).headD []) ?_ x hx)
          rw [splitP_ht r]; simp
      · exact List.mem_cons_of_mem _ (splitP_mem r p (List.mem_of_mem_tail h) x hx)
/-- ".swingle". -/
def resP : List Nat := [46, 115, 119, 105, 110, 103, 108, 101]
/-- Which paths may be. -/
def rightP (l : List Nat) : Bool := decide (l.length ≤ 200) && decide ((splitP l).headD [] ≠ resP) && decide ((splitP l).length ≤ 12) && (splitP l).all partOk
theorem rightP_long {l : List Nat} (h : 200 < l.length) : rightP l = false := by unfold rightP; rw [decide_eq_false (by omega)]; rfl
theorem rightP_res {l : List Nat} (h : (splitP l).headD [] = resP) : rightP l = false := by unfold rightP; rw [h]; simp
theorem rightP_many {l : List Nat} (h : 12 < (splitP l).length) : rightP l = false := by unfold rightP; rw [decide_eq_false (by omega : ¬ (splitP l).length ≤ 12)]; simp
theorem rightP_bad {l p : List Nat} (h : p ∈ splitP l) (hp : partOk p = false) : rightP l = false := by
  unfold rightP
  have : (splitP l).all partOk = false := by rw [List.all_eq_false]; exact ⟨p, h, by simp [hp]⟩
  rw [this]; simp
theorem rightP_yes {l : List Nat} (h1 : l.length ≤ 200) (h2 : (splitP l).headD [] ≠ resP) (h3 : (splitP l).length ≤ 12) (h4 : ∀ p ∈ splitP l, partOk p = true) : rightP l = true := by
  unfold rightP
  rw [decide_eq_true h1, decide_eq_true h2, decide_eq_true h3, List.all_eq_true.2 h4]; rfl
theorem rightP_len {l : List Nat} (h : rightP l = true) : l.length ≤ 200 := by
  unfold rightP at h; simp only [Bool.and_eq_true, decide_eq_true_eq] at h; exact h.1.1.1
end Go.Proofs.YtigjingielnaoaaDoor
namespace Go.Proofs.YtigjingielnaoaaDoor
set_option linter.unusedVariables false
set_option linter.unusedSimpArgs false
set_option linter.unusedSectionVars false
open Go.RowKit

/-- The blocks ks lie as they lay. -/
def Keep (ks : List Nat) (W W' : World) : Prop := W.heap.size ≤ W'.heap.size ∧ ∀ k ∈ ks, W'.heap[k]? = W.heap[k]?
theorem Keep.refl (ks : List Nat) (W : World) : Keep ks W W := ⟨Nat.le_refl _, fun _ _ => rfl⟩
theorem Keep.trans {ks : List Nat} {A B C : World} (h : Keep ks A B) (k : Keep ks B C) : Keep ks A C := ⟨Nat.le_trans h.1 k.1, fun i hi => (k.2 i hi).trans (h.2 i hi)⟩
theorem Keep.putObj {ks : List Nat} {W : World} {l : Nat} (o : Obj) (hl : ∀ k ∈ ks, k ≠ l) : Keep ks W (W.putObj l o) := ⟨by simp, fun k hk => World.putObj_heap_other (hl k hk)⟩
theorem Keep.of_upd {ks fp : List Nat} {W W' : World} (h : Upd fp W W') (hk : ∀ k ∈ ks, k < W.heap.size ∧ k ∉ fp) : Keep ks W W' := ⟨h.size, fun k hm => h.block k (hk k hm).1 (hk k hm).2⟩
/-- What the iterator does of its own: it writes the blocks fp, and lays new ones. -/
def Own2 (fp : List Nat) (A B : World) : Prop := Upd fp A B ∧ KeepsOthers A B
theorem Own2.refl (fp : List Nat) (A : World) : Own2 fp A A := ⟨Upd.refl _ _, KeepsOthers.refl _⟩
theorem Own2.trans {fp : List Nat} {A B C : World} (h : Own2 fp A B) (k : Own2 fp B C) : Own2 fp A C := ⟨h.1.then k.1, h.2.trans k.2⟩
theorem Blk.cellsOnly {w : World} {b : Nat} {cs : List Value} {t : TypeId} (h : Blk w b cs t) : ∀ o, w.heap[b]? = some o → o.isCells = true := fun o ho => by
  unfold Blk at h; rw [h] at ho; cases ho; rfl
theorem Row.cellsOnly {w : World} {e : TypeId} {size : Nat} {v : Value} {n : Nat} {xs : List Value} (h : Row w e size v n xs) : ∀ g, v.ownBlock = some g → ∀ o, w.heap[g]? = some o → o.isCells = true := fun g hg o ho => by
  rcases h.2 with ⟨rfl, rfl⟩ | ⟨g', cap, cur, rfl, hb, hh, _⟩
  · simp [Value.ownBlock] at hg
  · simp [Value.ownBlock] at hg; subst hg; rw [hh] at ho; cases ho; rfl
theorem Upd.others {fp : List Nat} {w w' : World} (h : Upd fp w w') (hc : ∀ k, k ∈ fp → ∀ o, w.heap[k]? = some o → o.isCells = true) : KeepsOthers w w' :=
  ⟨h.size, fun k o ho hn => by
    by_cases hm : k ∈ fp
    · have := hc k hm o ho; rw [this] at hn; cases hn
    · exact (h.block k (Array.getElem?_eq_some_iff.1 ho).1 hm).trans ho⟩
theorem own2_of {fp fq : List Nat} {w w' : World} (h : Upd fq w w') (hs : ∀ k ∈ fq, k ∈ fp) (hc : ∀ k, k ∈ fq → ∀ o, w.heap[k]? = some o → o.isCells = true) : Own2 fp w w' := ⟨h.mono fun k hk => .inl (hs k hk), h.others hc⟩
theorem upd_ownF {β : Type} (B : Nat) (fp : List Nat) (w0 : World) (hB : w0.heap.size ≤ B) : OwnFrom B (fun (_ : β) W => Upd fp w0 W) := fun _ W W' row hs hg hr =>
  hs.grown hg (fun k hk => .inr (by have := (hr k hk).1; omega))
theorem blk_ownF {β : Type} (B b : Nat) (f : β → List Value) (t : TypeId) : OwnFrom B (fun s W => Blk W b (f s) t) := fun s W W' row hs hg hr =>
  Blk.grown hs hg (fun e => by obtain ⟨_, o, ho, hc⟩ := hr b e; rw [Blk.cellsOnly hs o ho] at hc; cases hc)
theorem Row.ownF {w w' : World} {e : TypeId} {size : Nat} {v : Value} {n : Nat} {xs : List Value} {row : Option Nat} {B : Nat} (h : Row w e size v n xs) (hg : w.grownBy w' row) (hr : ∀ r, row = some r → B ≤ r ∧ ∃ o : Obj, w.heap[r]? = some o ∧ o.isCells = false) : Row w' e size v n xs :=
  h.upd ((Upd.refl row.toList w).grown hg (fun k hk => .inl (by simp [hk]))) (fun k hk hm => by
    simp at hm; obtain ⟨_, o, ho, hc⟩ := hr k hm; rw [h.cellsOnly k hk o ho] at hc; cases hc)
def SeqW {α : Type} (P : Program) (g : Nat) (lb : Array Value) (encs : α → Array Value) (fp ks : List Nat) (S Sp : List α → Prop) (N : Nat) (w : World) : Prop :=
  ∀ (l : Nat) (J Jx : List α → World → Prop) (W : World), Upd [] w W → W.heap.size = w.heap.size + 2 → (∀ s A B, J s A → Own2 fp A B → J s B) → (∀ s A B, Jx s A → Own2 fp A B → Jx s B) →
    (∀ pre x W1, J pre W1 → pre.length < N → (∀ k ∈ fp, k < W1.heap.size) → YieldAt Fence.wide 7 P l (encs x) W1 fun e W' => (e = .returned (.bool true) ∧ J (pre ++ [x]) W' ∧ Keep ks W1 W') ∨ (e = .returned (.bool false) ∧ Jx (pre ++ [x]) W')) → J [] W →
    CallsIn Fence.wide 8 P g (#[.func (.yield l) #[] #[]] ++ lb) W fun e W' => (∃ v, e = .returned v) ∧ ((∃ xs, S xs ∧ J xs W') ∨ (∃ pre, Sp pre ∧ Jx pre W'))

section
variable {α : Type} {P : Program} {g : Operand} {ps : Array Tmp} {assign body : Code} {Q : Exit → Act → World → Prop} {a : Act} {w : World}
theorem loopW {gf : Nat} {lb : Array Value} (hg : a.eval g = .func (.func gf) #[] lb) (eg : ∀ args w, (callFunc gf args).run P w = .ok (.enter gf args) w)
    {encs : α → Array Value} {fp ks : List Nat} {S Sp : List α → Prop} {N : Nat} (hseq : SeqW P gf lb encs fp ks S Sp N w) (hks : ∀ k ∈ ks, k ≠ w.heap.size + 1) (hps : ∀ x, (encs x).size = ps.size)
    (I : List α → World → Prop) (Ix : Code → List α → World → Prop) (Mid : List α → α → Act → World → Prop)
    (hI : OwnFrom w.heap.size I) (hIx : ∀ c, OwnFrom w.heap.size (Ix c)) (hMid : ∀ pre x a', OwnFrom w.heap.size (fun (_ : Unit) W => Mid pre x a' W))
    (hIw : ∀ s A B, I s A → Own2 fp A B → I s B) (hIxw : ∀ c s A B, Ix c s A → Own2 fp A B → Ix c s B) (h0 : I [] w)
    (hassign : ∀ (l : Nat) (pre : List α) (x : α) (W : World) (K : Act → World → Prop), I pre W → w.heap.size ≤ W.heap.size → (∀ k ∈ fp, k < W.heap.size) → (∀ a' W', KeepsFrom w.heap.size W W' → Keep ks W W' → Mid pre x a' W' → K a' W') →
      assign.wpIn (Fence.wide.inRound l) 7 P (Exit.then K (fun _ _ _ => False)) { tmps := (ps.zip (encs x)).foldl (fun t (p, v) => t.setIfInBounds p v) a.tmps, defers := [] } W)
    (hbody : ∀ (l : Nat) (pre : List α) (x : α) (a' : Act) (W : World), w.heap.size ≤ W.heap.size → Mid pre x a' W → pre.length < N →
      body.wpIn (Fence.wide.inRound l) 7 P (ownPostG w.heap.size (Keep ks) I Ix (pre ++ [x]) W) a' W)
    (hdone : ∀ (D : Nat) (xs : List α) (W : World), w.heap.size ≤ D → S xs → I xs W → W.heap[D]? = some (.deferred (some [])) → Q .normal { a with defers := { target := .collected D, args := #[] } :: a.defers } W)
    (hstop : ∀ (D : Nat) (c : Code) (pre : List α) (W : World), w.heap.size ≤ D → Sp pre → Ix c pre W → W.heap[D]? = some (.deferred (some [])) → c.wpIn Fence.wide 9 P Q { a with defers := { target := .collected D, args := #[] } :: a.defers } W) :
    (Code.rangeFunc g ps assign body).wpIn Fence.wide 9 P Q a w := by
  refine wpIn_rangeFunc fun fn hfn => ?_
  -- the record of this loop, by its state and its pending jump
  let rc : LoopState → Option Code → Loop := fun s p => { state := s, pending := p, fn, tmps := a.tmps, params := ps, assign, body, defers := w.heap.size }
  let wD := w.alloc (.deferred (some []))
  let wL := wD.alloc (.loop (rc .ready none))
  have zD : wD.heap.size = w.heap.size + 1 := by simp [wD]
  have recL : wL.heap[w.heap.size + 1]? = some (.loop (rc .ready none)) := by
    have := World.alloc_heap_new wD (.loop (rc .ready none)); rwa [zD] at this
  have defL : wL.heap[w.heap.size]? = some (.deferred (some [])) := (Below.heap_alloc wD _ _ (by omega)).trans (World.alloc_heap_new w _)
  have iL : I [] wL := hI.alloc _ (hI.alloc _ h0)
  have uL : Upd [] w wL := ((Upd.refl [] w).alloc _).alloc _
  refine ⟨w.heap.size + 1, [{ target := .collected w.heap.size, args := #[] }], wL, { target := .fn (.func gf) lb, args := #[.func (.yield (w.heap.size + 1)) #[] #[]] }, wL, gf, #[.func (.yield (w.heap.size + 1)) #[] #[]] ++ lb, wL, run_enterLoop_outer _ _ _ _ _, by simp only [resolve, hg]; simp [go_sem], fun _ _ => trivial, by simp [invoke, go_sem, eg], (fun _ => by omega), ?_⟩
  have kept : ∀ {A B : World} {k : Nat} {o : Obj}, Own2 fp A B → A.heap[k]? = some o → o.isCells = false → B.heap[k]? = some o := fun hAB h hc => hAB.2.same _ _ h hc
  refine (hseq (w.heap.size + 1)
    (fun s W => I s W ∧ W.heap[w.heap.size + 1]? = some (.loop (rc .ready none)) ∧ W.heap[w.heap.size]? = some (.deferred (some [])))
    (fun s W => ∃ c, Ix c s W ∧ W.heap[w.heap.size + 1]? = some (.loop (rc .done (some c))) ∧ W.heap[w.heap.size]? = some (.deferred (some [])))
    wL uL (by simp [wL, zD]) (fun s A B h hAB => ⟨hIw s A B h.1 hAB, kept hAB h.2.1 rfl, kept hAB h.2.2 rfl⟩)
    (fun s A B h hAB => by obtain ⟨c, h1, h2, h3⟩ := h; exact ⟨c, hIxw c s A B h1 hAB, kept hAB h2 rfl, kept hAB h3 rfl⟩) ?round ⟨iL, recL, defL⟩).mono ?behind
  case round =>
    rintro pre x W ⟨hi, hr, hd⟩ hlen hfp
    have hsz : w.heap.size ≤ W.heap.size := by have := (Array.getElem?_eq_some_iff.1 hr).1; omega
    refine ⟨fn, _, assign, body, run_yield (r := rc .ready none) hr (hps x), roundIn_of_wpIn hfn (hassign _ pre x W _ hi hsz hfp fun a' Wa hkf hkp hmid => ?_)⟩
    have hr1 := hkf.same _ _ (by omega) hr rfl
    have hd1 := hkf.same _ _ (Nat.le_refl _) hd rfl
    have hl1 : w.heap.size + 1 < Wa.heap.size := (Array.getElem?_eq_some_iff.1 hr1).1
    refine ⟨_, run_beginRound hr1 rfl, ?_⟩
    let Wb := Wa.putObj (w.heap.size + 1) (.loop (rc .busy none))
    have hr2 : Wb.heap[w.heap.size + 1]? = some (.loop (rc .busy none)) := World.putObj_heap_same hl1
    have hd2 : Wb.heap[w.heap.size]? = some (.deferred (some [])) := (World.putObj_heap_other (by omega)).trans hd1
    have hkb : Keep ks W Wb := hkp.trans (Keep.putObj _ fun k hk => hks k hk)
    have hmb : Mid pre x a' Wb := (hMid pre x a').putObj (s := ()) _ hmid (by omega) hr1 rfl
    refine wpIn_mono (hbody _ pre x a' Wb (by show w.heap.size ≤ (Wa.putObj _ _).heap.size; simp; omega) hmb hlen) fun e a3 W3 hp => ?_
    -- the round's end: the record takes the jump up
    have fin : ∀ (j : Option Code), KeepsFrom w.heap.size Wb W3 →
        (Instr.endRound (w.heap.size + 1) j).run P W3 = .ok (.bool j.isNone) (W3.putObj (w.heap.size + 1) (.loop (rc (if j.isNone then .ready else .done) j))) ∧ W3.heap[w.heap.size + 1]? = some (.loop (rc .busy none)) ∧
        (W3.putObj (w.heap.size + 1) (.loop (rc (if j.isNone then .ready else .done) j))).heap[w.heap.size + 1]? = some (.loop (rc (if j.isNone then .ready else .done) j)) ∧
        (W3.putObj (w.heap.size + 1) (.loop (rc (if j.isNone then .ready else .done) j))).heap[w.heap.size]? = some (.deferred (some [])) := fun j hk => by
      have hr3 := hk.same _ _ (by omega) hr2 rfl
      exact ⟨run_endRound j hr3, hr3, World.putObj_heap_same (Array.getElem?_eq_some_iff.1 hr3).1, (World.putObj_heap_other (by omega)).trans (hk.same _ _ (Nat.le_refl _) hd2 rfl)⟩
    have out : ∀ (c : Code), KeepsFrom w.heap.size Wb W3 ∧ Ix c (pre ++ [x]) W3 → ∃ v W4, (Instr.endRound (w.heap.size + 1) (some c)).run P W3 = .ok v W4 ∧
        ((Ending.returned v = .returned (.bool true) ∧ (I (pre ++ [x]) W4 ∧ W4.heap[w.heap.size + 1]? = some (.loop (rc .ready none)) ∧ W4.heap[w.heap.size]? = some (.deferred (some []))) ∧ Keep ks W W4) ∨
         (Ending.returned v = .returned (.bool false) ∧ ∃ c, Ix c (pre ++ [x]) W4 ∧ W4.heap[w.heap.size + 1]? = some (.loop (rc .done (some c))) ∧ W4.heap[w.heap.size]? = some (.deferred (some [])))) := fun c h => by
      obtain ⟨hrun, hr3, hr4, hd4⟩ := fin (some c) h.1
      exact ⟨_, _, hrun, .inr ⟨rfl, c, (hIx c).putObj _ h.2 (by omega) hr3 rfl, hr4, hd4⟩⟩
    cases e with
    | normal =>
      obtain ⟨hrun, hr3, hr4, hd4⟩ := fin none hp.1
      exact ⟨_, _, hrun, .inl ⟨rfl, ⟨hI.putObj _ hp.2.2 (by omega) hr3 rfl, hr4, hd4⟩, (hkb.trans hp.2.1).trans (Keep.putObj _ fun k hk => hks k hk)⟩⟩
    | ret => exact out .ret hp
    | exit id => exact out (.exit id) hp
    | goto t => exact out (.goto t) hp
    | panic ch => exact hp.elim
    | outgrown => exact hp.elim
  case behind =>
    rintro e W2 ⟨⟨v, rfl⟩, (⟨xs, hS, hi, hr, hd⟩ | ⟨pre, hSp, c, hi, hr, hd⟩)⟩
    · exact ⟨none, _, run_endLoop (r := rc .ready none) hr (by simp [rc]), hdone _ xs _ (Nat.le_refl _) hS (hI.putObj _ hi (by omega) hr rfl) ((World.putObj_heap_other (by omega)).trans hd)⟩
    · exact ⟨some c, _, run_endLoop (r := rc .done (some c)) hr (by simp [rc]), hstop _ c pre _ (Nat.le_refl _) hSp ((hIx c).putObj _ hi (by omega) hr rfl) ((World.putObj_heap_other (by omega)).trans hd)⟩
/-- The same, where the activation behind the assignment is known. -/
theorem loopWA {gf : Nat} {lb : Array Value} (hg : a.eval g = .func (.func gf) #[] lb) (eg : ∀ args w, (callFunc gf args).run P w = .ok (.enter gf args) w)
    {encs : α → Array Value} {fp ks : List Nat} {S Sp : List α → Prop} {N : Nat} (hseq : SeqW P gf lb encs fp ks S Sp N w) (hks : ∀ k ∈ ks, k ≠ w.heap.size + 1) (hps : ∀ x, (encs x).size = ps.size)
    (I : List α → World → Prop) (Ix : Code → List α → World → Prop) (act : α → Act)
    (hI : OwnFrom w.heap.size I) (hIx : ∀ c, OwnFrom w.heap.size (Ix c)) (hIw : ∀ s A B, I s A → Own2 fp A B → I s B) (hIxw : ∀ c s A B, Ix c s A → Own2 fp A B → Ix c s B) (h0 : I [] w)
    (hassign : ∀ (l : Nat) (x : α) (W : World) (K : Act → World → Prop), K (act x) W →
      assign.wpIn (Fence.wide.inRound l) 7 P (Exit.then K (fun _ _ _ => False)) { tmps := (ps.zip (encs x)).foldl (fun t (p, v) => t.setIfInBounds p v) a.tmps, defers := [] } W)
    (hbody : ∀ (l : Nat) (pre : List α) (x : α) (W : World), w.heap.size ≤ W.heap.size → (∀ k ∈ fp, k < W.heap.size) → I pre W → pre.length < N →
      body.wpIn (Fence.wide.inRound l) 7 P (ownPostG w.heap.size (Keep ks) I Ix (pre ++ [x]) W) (act x) W)
    (hdone : ∀ (D : Nat) (xs : List α) (W : World), w.heap.size ≤ D → S xs → I xs W → W.heap[D]? = some (.deferred (some [])) → Q .normal { a with defers := { target := .collected D, args := #[] } :: a.defers } W)
    (hstop : ∀ (D : Nat) (c : Code) (pre : List α) (W : World), w.heap.size ≤ D → Sp pre → Ix c pre W → W.heap[D]? = some (.deferred (some [])) → c.wpIn Fence.wide 9 P Q { a with defers := { target := .collected D, args := #[] } :: a.defers } W) :
    (Code.rangeFunc g ps assign body).wpIn Fence.wide 9 P Q a w :=
  loopW hg eg hseq hks hps I Ix (fun pre x a' W => (I pre W ∧ ∀ k ∈ fp, k < W.heap.size) ∧ a' = act x) hI hIx
    (fun pre x a' _ A B row hs hg hr => ⟨⟨hI pre A B row hs.1.1 hg hr, fun k hk => Nat.lt_of_lt_of_le (hs.1.2 k hk) hg.size⟩, hs.2⟩) hIw hIxw h0
    (fun l pre x W K hi hsz hfp hK => hassign l x W K (hK _ _ (KeepsFrom.refl _ _) (Keep.refl _ _) ⟨⟨hi, hfp⟩, rfl⟩))
    (fun l pre x a' W hsz hm hlt => by obtain ⟨⟨h1, h2⟩, rfl⟩ := hm; exact hbody l pre x W hsz h2 h1 hlt) hdone hstop
end
end Go.Proofs.YtigjingielnaoaaDoor

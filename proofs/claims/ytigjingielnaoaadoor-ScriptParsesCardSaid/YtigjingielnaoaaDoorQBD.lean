/- A loop over an iterator that writes cells of its own between two rounds, where it is known what may come next: the contract, and the law of the loop (as SeqW). -/
import Derived.Test.YtigjingielnaoaaDoorQAF
import Derived.BigRegionIn
import Derived.Test.YtigjingielnaoaaDoorQBA
import Derived.Test.YtigjingielnaoaaDoorQAL
import Derived.Test.YtigjingielnaoaaDoorQAV
namespace Go.Proofs.YtigjingielnaoaaDoor
set_option linter.unusedVariables false
set_option linter.unusedSimpArgs false
set_option linter.unusedSectionVars false
open Go.RowKit

/-- As SeqW, with what may come next. -/
def SeqN {α : Type} (P : Program) (g : Nat) (lb : Array Value) (encs : α → Array Value) (fp ks : List Nat) (S Sp : List α → Prop) (Nx : List α → α → Prop) (w : World) : Prop :=
  ∀ (l : Nat) (J Jx : List α → World → Prop) (W : World), Upd [] w W → W.heap.size = w.heap.size + 2 → (∀ s A B, J s A → Own2 fp A B → J s B) → (∀ s A B, Jx s A → Own2 fp A B → Jx s B) →
    (∀ pre x W1, J pre W1 → Nx pre x → (∀ k ∈ fp, k < W1.heap.size) → YieldAt Fence.wide 7 P l (encs x) W1 fun e W' => (e = .returned (.bool true) ∧ J (pre ++ [x]) W' ∧ Keep ks W1 W') ∨ (e = .returned (.bool false) ∧ Jx (pre ++ [x]) W')) → J [] W →
    CallsIn Fence.wide 8 P g (#[.func (.yield l) #[] #[]] ++ lb) W fun e W' => (∃ v, e = .returned v) ∧ ((∃ xs, S xs ∧ J xs W') ∨ (∃ pre, Sp pre ∧ Jx pre W'))

section
variable {α : Type} {P : Program} {g : Operand} {ps : Array Tmp} {assign body : Code} {Q : Exit → Act → World → Prop} {a : Act} {w : World}
theorem loopN {gf : Nat} {lb : Array Value} (hg : a.eval g = .func (.func gf) #[] lb) (eg : ∀ args w, (callFunc gf args).run P w = .ok (.enter gf args) w)
    {encs : α → Array Value} {fp ks : List Nat} {S Sp : List α → Prop} {Nx : List α → α → Prop} (hseq : SeqN P gf lb encs fp ks S Sp Nx w) (hks : ∀ k ∈ ks, k ≠ w.heap.size + 1) (hps : ∀ x, (encs x).size = ps.size)
    (I : List α → World → Prop) (Ix : Code → List α → World → Prop) (Mid : List α → α → Act → World → Prop)
    (hI : OwnFrom w.heap.size I) (hIx : ∀ c, OwnFrom w.heap.size (Ix c)) (hMid : ∀ pre x a', OwnFrom w.heap.size (fun (_ : Unit) W => Mid pre x a' W))
    (hIw : ∀ s A B, I s A → Own2 fp A B → I s B) (hIxw : ∀ c s A B, Ix c s A → Own2 fp A B → Ix c s B) (h0 : I [] w)
    (hassign : ∀ (l : Nat) (pre : List α) (x : α) (W : World) (K : Act → World → Prop), I pre W → w.heap.size ≤ W.heap.size → (∀ k ∈ fp, k < W.heap.size) → (∀ a' W', KeepsFrom w.heap.size W W' → Keep ks W W' → Mid pre x a' W' → K a' W') →
      assign.wpIn (Fence.wide.inRound l) 7 P (Exit.then K (fun _ _ _ => False)) { tmps := (ps.zip (encs x)).foldl (fun t (p, v) => t.setIfInBounds p v) a.tmps, defers := [] } W)
    (hbody : ∀ (l : Nat) (pre : List α) (x : α) (a' : Act) (W : World), w.heap.size ≤ W.heap.size → Mid pre x a' W → Nx pre x →
      body.wpIn (Fence.wide.inRound l) 7 P (ownPostG w.heap.size (Keep ks) I Ix (pre ++ [x]) W) a' W)
    (hdone : ∀ (D : Nat) (xs : List α) (W : World), w.heap.size ≤ D → S xs → I xs W → W.heap[D]? = some (.deferred (some [])) → Q .normal { a with defers := { target := .collected D, args := #[] } :: a.defers } W)
    (hstop : ∀ (D : Nat) (c : Code) (pre : List α) (W : World), w.heap.size ≤ D → Sp pre → Ix c pre W → W.heap[D]? = some (.deferred (some [])) → c.wpIn Fence.wide 9 P Q { a with defers := { target := .collected D, args := #[] } :: a.defers } W) :
    (Code.rangeFunc g ps assign body).wpIn Fence.wide 9 P Q a w := by
  refine wpIn_rangeFunc fun fn hfn => ?_
  -- the record of this loop, by its state and its pending jump
  let rc : LoopState → Option Code → Loop := fun s p => { state := s, pending := p, fn, tmps := a.tmps, params := ps, assign, body, defers := w.heap.size }
  let wD := w.alloc (.deferred (some []))
  let wL := wD.alloc (.loop (rc .ready none))
  have zD : wD.heap.size = w.heap.size + 1 := by simp [wD]
  have recL : wL.heap[w.heap.size + 1]? = some (.loop (rc .ready none)) := by
    have := World.alloc_heap_new wD (.loop (rc .ready none)); rwa [zD] at this
  have defL : wL.heap[w.heap.size]? = some (.deferred (some [])) := (Below.heap_alloc wD _ _ (by omega)).trans (World.alloc_heap_new w _)
  have iL : I [] wL := hI.alloc _ (hI.alloc _ h0)
  have uL : Upd [] w wL := ((Upd.refl [] w).alloc _).alloc _
  refine ⟨w.heap.size + 1, [{ target := .collected w.heap.size, args := #[] }], wL, { target := .fn (.func gf) lb, args := #[.func (.yield (w.heap.size + 1)) #[] #[]] }, wL, gf, #[.func (.yield (w.heap.size + 1)) #[] #[]] ++ lb, wL, run_enterLoop_outer _ _ _ _ _, by simp only [resolve, hg]; simp [go_sem], fun _ _ => trivial, by simp [invoke, go_sem, eg], (fun _ => by omega), ?_⟩
  have kept : ∀ {A B : World} {k : Nat} {o : Obj}, Own2 fp A B → A.heap[k]? = some o → o.isCells = false → B.heap[k]? = some o := fun hAB h hc => hAB.2.same _ _ h hc
  refine (hseq (w.heap.size + 1)
    (fun s W => I s W ∧ W.heap[w.heap.size + 1]? = some (.loop (rc .ready none)) ∧ W.heap[w.heap.size]? = some (.deferred (some [])))
    (fun s W => ∃ c, Ix c s W ∧ W.heap[w.heap.size + 1]? = some (.loop (rc .done (some c))) ∧ W.heap[w.heap.size]? = some (.deferred (some [])))
    wL uL (by simp [wL, zD]) (fun s A B h hAB => ⟨hIw s A B h.1 hAB, kept hAB h.2.1 rfl, kept hAB h.2.2 rfl⟩)
    (fun s A B h hAB => by obtain ⟨c, h1, h2, h3⟩ := h; exact ⟨c, hIxw c s A B h1 hAB, kept hAB h2 rfl, kept hAB h3 rfl⟩) ?round ⟨iL, recL, defL⟩).mono ?behind
  case round =>
    rintro pre x W ⟨hi, hr, hd⟩ hlen hfp
    have hsz : w.heap.size ≤ W.heap.size := by have := (Array.getElem?_eq_some_iff.1 hr).1; omega
    refine ⟨fn, _, assign, body, run_yield (r := rc .ready none) hr (hps x), roundIn_of_wpIn hfn (hassign _ pre x W _ hi hsz hfp fun a' Wa hkf hkp hmid => ?_)⟩
    have hr1 := hkf.same _ _ (by omega) hr rfl
    have hd1 := hkf.same _ _ (Nat.le_refl _) hd rfl
    have hl1 : w.heap.size + 1 < Wa.heap.size := (Array.getElem?_eq_some_iff.1 hr1).1
    refine ⟨_, run_beginRound hr1 rfl, ?_⟩
    let Wb := Wa.putObj (w.heap.size + 1) (.loop (rc .busy none))
    have hr2 : Wb.heap[w.heap.size + 1]? = some (.loop (rc .busy none)) := World.putObj_heap_same hl1
    have hd2 : Wb.heap[w.heap.size]? = some (.deferred (some [])) := (World.putObj_heap_other (by omega)).trans hd1
    have hkb : Keep ks W Wb := hkp.trans (Keep.putObj _ fun k hk => hks k hk)
    have hmb : Mid pre x a' Wb := (hMid pre x a').putObj (s := ()) _ hmid (by omega) hr1 rfl
    refine wpIn_mono (hbody _ pre x a' Wb (by show w.heap.size ≤ (Wa.putObj _ _).heap.size; simp; omega) hmb hlen) fun e a3 W3 hp => ?_
    -- the round's end: the record takes the jump up
    have fin : ∀ (j : Option Code), KeepsFrom w.heap.size Wb W3 →
        (Instr.endRound (w.heap.size + 1) j).run P W3 = .ok (.bool j.isNone) (W3.putObj (w.heap.size + 1) (.loop (rc (if j.isNone then .ready else .done) j))) ∧ W3.heap[w.heap.size + 1]? = some (.loop (rc .busy none)) ∧
        (W3.putObj (w.heap.size + 1) (.loop (rc (if j.isNone then .ready else .done) j))).heap[w.heap.size + 1]? = some (.loop (rc (if j.isNone then .ready else .done) j)) ∧
        (W3.putObj (w.heap.size + 1) (.loop (rc (if j.isNone then .ready else .done) j))).heap[w.heap.size]? = some (.deferred (some [])) := fun j hk => by
      have hr3 := hk.same _ _ (by omega) hr2 rfl
      exact ⟨run_endRound j hr3, hr3, World.putObj_heap_same (Array.getElem?_eq_some_iff.1 hr3).1, (World.putObj_heap_other (by omega)).trans (hk.same _ _ (Nat.le_refl _) hd2 rfl)⟩
    have out : ∀ (c : Code), KeepsFrom w.heap.size Wb W3 ∧ Ix c (pre ++ [x]) W3 → ∃ v W4, (Instr.endRound (w.heap.size + 1) (some c)).run P W3 = .ok v W4 ∧
        ((Ending.returned v = .returned (.bool true) ∧ (I (pre ++ [x]) W4 ∧ W4.heap[w.heap.size + 1]? = some (.loop (rc .ready none)) ∧ W4.heap[w.heap.size]? = some (.deferred (some []))) ∧ Keep ks W W4) ∨
         (Ending.returned v = .returned (.bool false) ∧ ∃ c, Ix c (pre ++ [x]) W4 ∧ W4.heap[w.heap.size + 1]? = some (.loop (rc .done (some c))) ∧ W4.heap[w.heap.size]? = some (.deferred (some [])))) := fun c h => by
      obtain ⟨hrun, hr3, hr4, hd4⟩ := fin (some c) h.1
      exact ⟨_, _, hrun, .inr ⟨rfl, c, (hIx c).putObj _ h.2 (by omega) hr3 rfl, hr4, hd4⟩⟩
    cases e with
    | normal =>
      obtain ⟨hrun, hr3, hr4, hd4⟩ := fin none hp.1
      exact ⟨_, _, hrun, .inl ⟨rfl, ⟨hI.putObj _ hp.2.2 (by omega) hr3 rfl, hr4, hd4⟩, (hkb.trans hp.2.1).trans (Keep.putObj _ fun k hk => hks k hk)⟩⟩
    | ret => exact out .ret hp
    | exit id => exact out (.exit id) hp
    | goto t => exact out (.goto t) hp
    | panic ch => exact hp.elim
    | outgrown => exact hp.elim
  case behind =>
    rintro e W2 ⟨⟨v, rfl⟩, (⟨xs, hS, hi, hr, hd⟩ | ⟨pre, hSp, c, hi, hr, hd⟩)⟩
    · exact ⟨none, _, run_endLoop (r := rc .ready none) hr (by simp [rc]), hdone _ xs _ (Nat.le_refl _) hS (hI.putObj _ hi (by omega) hr rfl) ((World.putObj_heap_other (by omega)).trans hd)⟩
    · exact ⟨some c, _, run_endLoop (r := rc .done (some c)) hr (by simp [rc]), hstop _ c pre _ (Nat.le_refl _) hSp ((hIx c).putObj _ hi (by omega) hr rfl) ((World.putObj_heap_other (by omega)).trans hd)⟩
/-- The same, where the activation behind the assignment is known. -/
theorem loopNA {gf : Nat} {lb : Array Value} (hg : a.eval g = .func (.func gf) #[] lb) (eg : ∀ args w, (callFunc gf args).run P w = .ok (.enter gf args) w)
    {encs : α → Array Value} {fp ks : List Nat} {S Sp : List α → Prop} {Nx : List α → α → Prop} (hseq : SeqN P gf lb encs fp ks S Sp Nx w) (hks : ∀ k ∈ ks, k ≠ w.heap.size + 1) (hps : ∀ x, (encs x).size = ps.size)
    (I : List α → World → Prop) (Ix : Code → List α → World → Prop) (act : α → Act)
    (hI : OwnFrom w.heap.size I) (hIx : ∀ c, OwnFrom w.heap.size (Ix c)) (hIw : ∀ s A B, I s A → Own2 fp A B → I s B) (hIxw : ∀ c s A B, Ix c s A → Own2 fp A B → Ix c s B) (h0 : I [] w)
    (hassign : ∀ (l : Nat) (x : α) (W : World) (K : Act → World → Prop), K (act x) W →
      assign.wpIn (Fence.wide.inRound l) 7 P (Exit.then K (fun _ _ _ => False)) { tmps := (ps.zip (encs x)).foldl (fun t (p, v) => t.setIfInBounds p v) a.tmps, defers := [] } W)
    (hbody : ∀ (l : Nat) (pre : List α) (x : α) (W : World), w.heap.size ≤ W.heap.size → (∀ k ∈ fp, k < W.heap.size) → I pre W → Nx pre x →
      body.wpIn (Fence.wide.inRound l) 7 P (ownPostG w.heap.size (Keep ks) I Ix (pre ++ [x]) W) (act x) W)
    (hdone : ∀ (D : Nat) (xs : List α) (W : World), w.heap.size ≤ D → S xs → I xs W → W.heap[D]? = some (.deferred (some [])) → Q .normal { a with defers := { target := .collected D, args := #[] } :: a.defers } W)
    (hstop : ∀ (D : Nat) (c : Code) (pre : List α) (W : World), w.heap.size ≤ D → Sp pre → Ix c pre W → W.heap[D]? = some (.deferred (some [])) → c.wpIn Fence.wide 9 P Q { a with defers := { target := .collected D, args := #[] } :: a.defers } W) :
    (Code.rangeFunc g ps assign body).wpIn Fence.wide 9 P Q a w :=
  loopN hg eg hseq hks hps I Ix (fun pre x a' W => (I pre W ∧ ∀ k ∈ fp, k < W.heap.size) ∧ a' = act x) hI hIx
    (fun pre x a' _ A B row hs hg hr => ⟨⟨hI pre A B row hs.1.1 hg hr, fun k hk => Nat.lt_of_lt_of_le (hs.1.2 k hk) hg.size⟩, hs.2⟩) hIw hIxw h0
    (fun l pre x W K hi hsz hfp hK => hassign l x W K (hK _ _ (KeepsFrom.refl _ _) (Keep.refl _ _) ⟨⟨hi, hfp⟩, rfl⟩))
    (fun l pre x a' W hsz hm hlt => by obtain ⟨⟨h1, h2⟩, rfl⟩ := hm; exact hbody l pre x W hsz h2 h1 hlt) hdone hstop
end
theorem SeqN.wide {α : Type} {P : Program} {g : Nat} {lb : Array Value} {encs : α → Array Value} {fp ks : List Nat} {S Sp : List α → Prop} {Nx : List α → α → Prop} {N : Nat} {w : World} (h : SeqN P g lb encs fp ks S Sp Nx w) (hN : ∀ pre x, Nx pre x → pre.length < N) : SeqW P g lb encs fp ks S Sp N w :=
  fun l J Jx W hU hz hJ hJx hY h0 => h l J Jx W hU hz hJ hJx (fun pre x W1 h1 h2 h3 => hY pre x W1 h1 (hN pre x h2) h3) h0
end Go.Proofs.YtigjingielnaoaaDoor
namespace Go.Proofs.YtigjingielnaoaaDoor
set_option linter.unusedVariables false
set_option linter.unusedSimpArgs false
set_option linter.unusedSectionVars false
open Go.RowKit Go.Shelf
attribute [local go_sem] Oper.semAt_some
set_option linter.unusedVariables false
set_option linter.unusedSimpArgs false

/-- The lines of a text, each with its end. -/
def rawP (l : List Nat) : List (List Nat) := (splitC 10 l).dropLast.map (· ++ [10]) ++ (if (splitC 10 l).getLastD [] = [] then [] else [(splitC 10 l).getLastD []])
theorem firstC_take (c : Nat) : ∀ l : List Nat, firstC c l < l.length → l.take (firstC c l + 1) = l.take (firstC c l) ++ [c]
  | [], h => by simp at h
  | x :: r, h => by
    rw [firstC_cons] at h ⊢
    by_cases e : x = c
    · subst e; simp
    · rw [if_neg e] at h ⊢
      rw [List.take_succ_cons, List.take_succ_cons, firstC_take c r (by rw [List.length_cons] at h; omega)]; rfl
theorem rawP_first (l : List Nat) (h : firstC 10 l < l.length) : rawP l = l.take (firstC 10 l + 1) :: rawP (l.drop (firstC 10 l + 1)) := by
  unfold rawP
  rw [splitC_first 10 l h, firstC_take 10 l h]
  have hne := splitC_ne 10 (l.drop (firstC 10 l + 1))
  generalize splitC 10 (l.drop (firstC 10 l + 1)) = r at *
  obtain ⟨a, r', rfl⟩ := List.exists_cons_of_ne_nil hne
  simp [List.dropLast_cons_cons]
theorem rawP_last (l : List Nat) (h : ¬ firstC 10 l < l.length) (hn : l ≠ []) : rawP l = [l] := by
  unfold rawP
  rw [splitC_last 10 l h]
  simp [hn]
/-- The lines, as strings. -/
def rawS (s : ByteArray) : List ByteArray := (rawP (bytesOf s)).map strOf
theorem rawS_first (s : ByteArray) (h : firstC 10 (bytesOf s) < s.size) : rawS s = s.extract 0 (firstC 10 (bytesOf s) + 1) :: rawS (s.extract (firstC 10 (bytesOf s) + 1) s.size) := by
  unfold rawS
  rw [rawP_first _ (by rw [length_bytesOf]; exact h), List.map_cons, ← strOf_take, bytesOf_extract, List.take_of_length_le (by rw [List.length_drop, length_bytesOf]; omega)]
theorem rawS_last (s : ByteArray) (h : ¬ firstC 10 (bytesOf s) < s.size) (hn : 0 < s.size) : rawS s = [s] := by
  unfold rawS
  rw [rawP_last _ (by rw [length_bytesOf]; exact h) (fun e => by rw [← length_bytesOf, e] at hn; simp at hn), List.map_cons, strOf_bytesOf]; rfl
theorem rawS_nil (s : ByteArray) (h : s.size = 0) : rawS s = [] := by
  unfold rawS
  have : bytesOf s = [] := List.eq_nil_of_length_eq_zero (by rw [length_bytesOf]; exact h)
  rw [this]; rfl
theorem indexB_yes (s : ByteArray) (w : World) (h : firstC 10 (bytesOf s) < s.size) : Calls Tryd.prog 57 #[.string s, .int .u8 10] w fun e w' => e = .returned (.int .i64 (firstC 10 (bytesOf s) : Nat)) ∧ w = w' :=
  (indexB_any s 10 w).mono fun e w' ⟨h1, h2⟩ => ⟨by rw [h1, indexByte_c]; unfold bytesOf at h ⊢; rw [if_pos (by exact h)]; rfl, h2⟩
theorem indexB_no (s : ByteArray) (w : World) (h : ¬ firstC 10 (bytesOf s) < s.size) : Calls Tryd.prog 57 #[.string s, .int .u8 10] w fun e w' => e = .returned (.int .i64 (-1)) ∧ w = w' :=
  (indexB_any s 10 w).mono fun e w' ⟨h1, h2⟩ => ⟨by rw [h1, indexByte_c]; unfold bytesOf at h; rw [if_neg (by exact h)], h2⟩
/-- Lines' iterator, closed over its box. -/
theorem lines_any (s : ByteArray) (w : World) : Calls Tryd.prog 47 #[.string s] w fun e w' =>
    e = .returned (.func (.func 83) #[] #[.pointer (some ⟨w.heap.size, 0, none⟩)]) ∧ w' = w.alloc (.cells #[.string s] 9) := by
  go_enter Tryd.func47, Tryd.ntmps47
  go_wp2
  go_ret
  exact ⟨rfl, rfl⟩
set_option maxRecDepth 100000 in
set_option maxHeartbeats 2000000 in
theorem lines_seq (Bs : Nat) (s : ByteArray) (w : World) (hB : Blk w Bs [.string s] 9) (hs : s.size ≤ 9223372036854775806) :
    SeqN Tryd.prog 83 #[.pointer (some ⟨Bs, 0, none⟩)] (fun x : ByteArray => #[Value.string x]) [Bs] [Bs] (fun xs => xs = rawS s) (fun pre => pre <+: rawS s) (fun pre x => pre ++ [x] <+: rawS s) w := by
  intro l J Jx W hU hz hJ hJx hY h0
  have b1 : Blk W Bs [.string s] 9 := hB.upd hU (by simp)
  have HJ := Lib.hid hJ
  have HJX := Lib.hid hJx
  have HY := Lib.hid hY
  have HJ0 := Lib.hid h0
  clear hJ hY h0 hJx hU hz hB
  have HB := Lib.hid b1
  clear b1
  refine callsIn_of_wp Tryd.func83 rfl trivial ?_ rfl
  simp only [Tryd.ntmps83, List.size_toArray, List.length_cons, List.length_nil, Nat.reduceAdd, Nat.reduceSub, Array.replicate_succ, Array.replicate_zero, List.push_toArray, List.append_toArray, List.nil_append, List.cons_append]
  gi_wp2
  gi_loopg [] s.size (fun g wr => ∃ r : ByteArray, ∃ pre : List ByteArray, g = r.size ∧ r.size ≤ s.size ∧ Hid (rawS s = pre ++ rawS r) ∧ Hid (J pre wr) ∧ Hid (Blk wr Bs [.string r] 9))
  case atStart => exact ⟨s, [], rfl, Nat.le_refl _, Lib.hid rfl, HJ0, HB⟩
  case round =>
    obtain ⟨r, pre, rfl, hrs, HP, HJp, HBk⟩ := hrel
    clear HB HJ0
    have hr1 : r.size ≤ 9223372036854775806 := by omega
    have c1 := HBk.out.cell 0 rfl
    have hf1 := HBk.out.frz 0
    have hlt : Bs < wr.heap.size := HBk.out.lt
    have HLT := Lib.hid hlt
    clear hlt
    by_cases hr0 : 0 < r.size
    · by_cases hc : firstC 10 (bytesOf r) < r.size
      · have HIX := Lib.hid (fun w => indexB_yes r w hc)
        have HPF := Lib.hid (rawS_first r hc)
        generalize firstC 10 (bytesOf r) = f at *
        have hfz : (f : Int) + 1 ≤ (r.size : Int) := by omega
        gi_wp2_with fail
        refine ⟨trivial, (callsIn_wide.2 (HIX.out _)).mono ?_⟩
        rintro e w2 ⟨rfl, rfl⟩
        gi_wp2_with fail
        have c1d : wr.drew.cell? ⟨Bs, 0, none⟩ = _ := c1
        gi_region
        have HW2 : Hid (Own2 [Bs] wr (wr.setCell ⟨Bs, 0, none⟩ (.string (r.extract (f + 1) r.size))).drew) := Lib.hid (own2_of (((Upd.refl [Bs] wr).setCell (p := ⟨Bs, 0, none⟩) (.inl (by simp)) _).drew) (fun k hk => hk) (fun k hk => by simp at hk; subst hk; exact HBk.out.cellsOnly))
        have HB2 : Hid (Blk (wr.setCell ⟨Bs, 0, none⟩ (.string (r.extract (f + 1) r.size))).drew Bs [.string (r.extract (f + 1) r.size)] 9) := Lib.hid ((HBk.out.set 0 (.string (r.extract (f + 1) r.size))).upd ((Upd.refl [] _).drew) (by simp))
        generalize (wr.setCell ⟨Bs, 0, none⟩ (.string (r.extract (f + 1) r.size))).drew = w2 at *
        have hsz : (r.extract (f + 1) r.size).size = r.size - (f + 1) := by rw [ByteArray.size_extract]; omega
        have HSZ := Lib.hid hsz
        obtain ⟨fn, tmps, assign, body, hy, hRd⟩ := HY.out pre (r.extract 0 (f + 1)) w2 (HJ.out _ _ _ HJp.out HW2.out) (by rw [HP.out, HPF.out]; exact ⟨rawS (r.extract (f + 1) r.size), by simp⟩) (by intro k hk; simp at hk; subst hk; exact HB2.out.lt)
        clear hsz c1 c1d hf1
        gi_wp2
        refine hRd.mono ?_
        rintro e W3 (⟨rfl, hJ3, hk3⟩ | ⟨rfl, hJx3⟩)
        · have HD : Hid (Blk W3 Bs [.string (r.extract (f + 1) r.size)] 9) := Lib.hid ((hk3.2 Bs (by simp)).trans HB2.out)
          have HJ3 := Lib.hid hJ3
          clear hk3 hJ3 hy
          gi_wp2
          gi_roundg (r.size - (f + 1))
          all_goals first
            | omega
            | exact ⟨r.extract (f + 1) r.size, pre ++ [r.extract 0 (f + 1)], HSZ.out.symm, by rw [HSZ.out]; omega, Lib.hid (by rw [HP.out, HPF.out]; simp), HJ3, HD⟩
        · gi_wp2
          refine bodyPost_ret (results_none rfl _ _ _) rfl ?_
          exact ⟨⟨_, rfl⟩, .inr ⟨_, by rw [HP.out, HPF.out]; exact ⟨rawS (r.extract (f + 1) r.size), by simp⟩, hJx3⟩⟩
      · have HIX := Lib.hid (fun w => indexB_no r w hc)
        have HPF := Lib.hid (rawS_last r hc hr0)
        gi_wp2_with fail
        refine ⟨trivial, (callsIn_wide.2 (HIX.out _)).mono ?_⟩
        rintro e w2 ⟨rfl, rfl⟩
        gi_wp2_with fail
        have HE : Hid ((.string ⟨#[]⟩ : Value) = .string ⟨#[]⟩) := Lib.hid rfl
        have HW2 : Hid (Own2 [Bs] wr (wr.setCell ⟨Bs, 0, none⟩ (.string ⟨#[]⟩))) := Lib.hid (own2_of ((Upd.refl [Bs] wr).setCell (p := ⟨Bs, 0, none⟩) (.inl (by simp)) _) (fun k hk => hk) (fun k hk => by simp at hk; subst hk; exact HBk.out.cellsOnly))
        have HB2 : Hid (Blk (wr.setCell ⟨Bs, 0, none⟩ (.string ⟨#[]⟩)) Bs [.string ⟨#[]⟩] 9) := Lib.hid (HBk.out.set 0 (.string ⟨#[]⟩))
        generalize wr.setCell ⟨Bs, 0, none⟩ (.string ⟨#[]⟩) = w2 at *
        obtain ⟨fn, tmps, assign, body, hy, hRd⟩ := HY.out pre r w2 (HJ.out _ _ _ HJp.out HW2.out) (by rw [HP.out, HPF.out]; exact List.prefix_rfl) (by intro k hk; simp at hk; subst hk; exact HB2.out.lt)
        clear c1 hf1
        gi_wp2
        refine hRd.mono ?_
        rintro e W3 (⟨rfl, hJ3, hk3⟩ | ⟨rfl, hJx3⟩)
        · have HD : Hid (Blk W3 Bs [.string ⟨#[]⟩] 9) := Lib.hid ((hk3.2 Bs (by simp)).trans HB2.out)
          have HJ3 := Lib.hid hJ3
          clear hk3 hJ3 hy
          gi_wp2
          gi_roundg 0
          all_goals first
            | omega
            | exact ⟨⟨#[]⟩, pre ++ [r], rfl, Nat.zero_le _, Lib.hid (by rw [HP.out, HPF.out, rawS_nil ⟨#[]⟩ rfl]; simp), HJ3, HD⟩
        · gi_wp2
          refine bodyPost_ret (results_none rfl _ _ _) rfl ?_
          exact ⟨⟨_, rfl⟩, .inr ⟨_, by rw [HP.out, HPF.out]; exact List.prefix_rfl, hJx3⟩⟩
    · have HPF := Lib.hid (rawS_nil r (by omega))
      gi_wp2
      go_end0
      exact ⟨⟨_, rfl⟩, .inl ⟨_, by rw [HP.out, HPF.out]; simp, HJp.out⟩⟩
end Go.Proofs.YtigjingielnaoaaDoor
namespace Go.Proofs.YtigjingielnaoaaDoor
set_option linter.unusedVariables false
set_option linter.unusedSimpArgs false
set_option linter.unusedSectionVars false
open Go.RowKit
set_option linter.unusedVariables false
set_option linter.unusedSimpArgs false

/-- Does a text end with a line? -/
def endN (l : List Nat) : Bool := decide (l.drop (l.length - 1) = [10])
theorem endN_pos {l : List Nat} (h : endN l = true) : 1 ≤ l.length := by
  unfold endN at h
  have := congrArg List.length (of_decide_eq_true h)
  rw [List.length_drop] at this; simp at this; omega
theorem endN_nil (s : ByteArray) (h : s.size = 0) : endN (bytesOf s) = false := by
  unfold endN
  have : bytesOf s = [] := List.eq_nil_of_length_eq_zero (by rw [length_bytesOf]; exact h)
  rw [this]; rfl
set_option maxRecDepth 100000 in
theorem hasSufN_any (s : ByteArray) (w : World) (hs : s.size ≤ 1000000) : Calls Tryd.prog 82 #[.string s, .string { data := #[10] }] w fun e w' => e = .returned (.bool (endN (bytesOf s))) ∧ w = w' := by
  by_cases h0 : s.size = 0
  · have HE := Lib.hid (endN_nil s h0)
    go_enter Tryd.func82, Tryd.ntmps82
    go_wp2
    go_ret
    exact ⟨by rw [HE.out]; rfl, rfl⟩
  · have h1 : 1 ≤ s.size := by omega
    have HT : Hid (((s.extract (s.size - 1) s.size).toList == [10]) = endN (bytesOf s)) := Lib.hid (by
      rw [toList_bytes, bytesOf_drop]; unfold endN; rw [length_bytesOf]; rfl)
    cases hb : endN (bytesOf s) with
    | true =>
      have t1 := HT.out.trans hb
      clear hb HT
      go_enter Tryd.func82, Tryd.ntmps82
      go_wp2
      go_ret
      exact ⟨rfl, rfl⟩
    | false =>
      have t1 := HT.out.trans hb
      clear hb HT
      go_enter Tryd.func82, Tryd.ntmps82
      go_wp2
      go_ret
      exact ⟨rfl, rfl⟩
theorem hasSufS_any (s : ByteArray) (w : World) (hs : s.size ≤ 1000000) : Calls Tryd.prog 46 #[.string s, .string { data := #[10] }] w fun e w' => e = .returned (.bool (endN (bytesOf s))) ∧ w = w' := by
  have HH := Lib.hid (fun w => hasSufN_any s w hs)
  go_enter Tryd.func46, Tryd.ntmps46
  go_wp2_with fail
  refine (HH.out _).mono ?_
  rintro e w' ⟨rfl, rfl⟩
  go_wp2
  go_ret
  exact ⟨rfl, rfl⟩
/-- A line without its end. -/
def trimN (s : ByteArray) : ByteArray := if endN (bytesOf s) = true then s.extract 0 (s.size - 1) else s
theorem trimSufL_any (s : ByteArray) (w : World) (hs : s.size ≤ 1000000) : Calls Tryd.prog 84 #[.string s, .string { data := #[10] }] w fun e w' => e = .returned (.string (trimN s)) ∧ w = w' := by
  have HH := Lib.hid (fun w => hasSufN_any s w hs)
  cases hb : endN (bytesOf s) with
  | true =>
    have h1 := endN_pos hb
    rw [length_bytesOf] at h1
    have HV : Hid (trimN s = s.extract 0 (s.size - 1)) := Lib.hid (if_pos hb)
    rw [hb] at HH
    obtain ⟨m, hm⟩ : ∃ m, s.size = m + 1 := ⟨s.size - 1, by omega⟩
    have hm2 : s.size - 1 = m := by omega
    rw [hm2] at HV
    clear hb hm2
    have hsz : (s.size : Int) = (m : Int) + 1 := by omega
    go_enter Tryd.func84, Tryd.ntmps84
    go_wp2_with fail
    refine (HH.out _).mono ?_
    rintro e w' ⟨rfl, rfl⟩
    go_wp2
    go_ret
    exact ⟨by rw [HV.out]; first | rfl | (congr 2; omega), rfl⟩
  | false =>
    have HV : Hid (trimN s = s) := Lib.hid (if_neg (by rw [hb]; decide))
    rw [hb] at HH
    clear hb
    go_enter Tryd.func84, Tryd.ntmps84
    go_wp2_with fail
    refine (HH.out _).mono ?_
    rintro e w' ⟨rfl, rfl⟩
    go_wp2
    go_ret
    exact ⟨by rw [HV.out]; rfl, rfl⟩
theorem trimSuf_any (s : ByteArray) (w : World) (hs : s.size ≤ 1000000) : Calls Tryd.prog 48 #[.string s, .string { data := #[10] }] w fun e w' => e = .returned (.string (trimN s)) ∧ w = w' := by
  have HH := Lib.hid (fun w => trimSufL_any s w hs)
  generalize trimN s = R at *
  go_enter Tryd.func48, Tryd.ntmps48
  go_wp2_with fail
  refine (HH.out _).mono ?_
  rintro e w' ⟨rfl, rfl⟩
  go_wp2
  go_ret
  exact ⟨rfl, rfl⟩
end Go.Proofs.YtigjingielnaoaaDoor

/- Small laws on memory, of whatever program: what a step may have written (Upd), a block that is known whole (Blk), a row that the call owns (Row). -/
import Derived.WalkKit
import Derived.Deep.AppendLies
import Derived.Deep.Draws
import Derived.Lib.Hide
import Derived.Maps.OwnOps
import Derived.Maps.Views
import Derived.Maps.OwnSet
namespace Go.Proofs.YtdehkaknbmbieaaGreat
set_option linter.unusedVariables false
set_option linter.unusedSimpArgs false
set_option linter.unusedSectionVars false
open Go.RowKit

/-- Of the blocks that were there only those of fp may have turned; no block has gone; the streams are as they were. -/
structure Upd (fp : List Nat) (w w' : World) : Prop where
  os : w'.os = w.os
  tape : w'.tape = w.tape
  output : w'.output = w.output
  size : w.heap.size ≤ w'.heap.size
  block : ∀ k, k < w.heap.size → k ∉ fp → w'.heap[k]? = w.heap[k]?

theorem Upd.refl (fp : List Nat) (w : World) : Upd fp w w := ⟨rfl, rfl, rfl, Nat.le_refl _, fun _ _ _ => rfl⟩
theorem Upd.mono {fp fp' : List Nat} {w w' : World} (h : Upd fp w w') (hs : ∀ k, k ∈ fp → k ∈ fp' ∨ w.heap.size ≤ k) : Upd fp' w w' :=
  ⟨h.os, h.tape, h.output, h.size, fun k hk hn => h.block k hk fun hm => (hs k hm).elim hn (fun h' => by omega)⟩
theorem Upd.trans {fp fp' : List Nat} {a b c : World} (h : Upd fp a b) (k : Upd fp' b c) (hs : ∀ k, k ∈ fp' → k ∈ fp ∨ a.heap.size ≤ k) : Upd fp a c :=
  ⟨k.os.trans h.os, k.tape.trans h.tape, k.output.trans h.output, Nat.le_trans h.size k.size, fun i hi hn =>
    (k.block i (Nat.lt_of_lt_of_le hi h.size) fun hm => (hs i hm).elim hn (fun h' => by omega)).trans (h.block i hi hn)⟩
theorem Upd.then {fp : List Nat} {a b c : World} (h : Upd fp a b) (k : Upd fp b c) : Upd fp a c := h.trans k fun _ h => .inl h
theorem Upd.drew {fp : List Nat} {a w : World} (h : Upd fp a w) : Upd fp a w.drew := ⟨h.os, h.tape, h.output, h.size, h.block⟩
theorem Upd.drewN {fp : List Nat} {a w : World} (h : Upd fp a w) (n : Nat) : Upd fp a (w.drewN n) := ⟨h.os, h.tape, h.output, h.size, h.block⟩
theorem Upd.alloc {fp : List Nat} {a w : World} (h : Upd fp a w) (o : Obj) : Upd fp a (w.alloc o) :=
  ⟨h.os, h.tape, h.output, Nat.le_trans h.size (by simp), fun k hk hn => (Below.heap_alloc _ _ _ (Nat.lt_of_lt_of_le hk h.size)).trans (h.block k hk hn)⟩
theorem Upd.setCell {fp : List Nat} {a w : World} (h : Upd fp a w) {p : Addr} (hp : p.block ∈ fp ∨ a.heap.size ≤ p.block) (u : Value) : Upd fp a (w.setCell p u) :=
  ⟨h.os, h.tape, h.output, by rw [World.size_setCell]; exact h.size, fun k hk hn => (Below.heap_setCell _ _ _ _ (fun e => by subst e; exact hp.elim hn (fun h' => by omega))).trans (h.block k hk hn)⟩
theorem Upd.grown {fp : List Nat} {a w w' : World} {row : Option Nat} (h : Upd fp a w) (hg : w.grownBy w' row) (hr : ∀ k, row = some k → k ∈ fp ∨ a.heap.size ≤ k) : Upd fp a w' :=
  ⟨hg.os.trans h.os, hg.tape.trans h.tape, hg.output.trans h.output, Nat.le_trans h.size hg.size, fun k hk hn =>
    (hg.block k (Nat.lt_of_lt_of_le hk h.size) (fun e => (hr k e.symm).elim hn (fun h' => by omega))).trans (h.block k hk hn)⟩
theorem Upd.below {w w' : World} (h : Upd [] w w') : Below w.heap.size w w' := ⟨h.os, h.tape, h.output, h.size, fun k hk => h.block k hk (by simp)⟩
theorem Upd.of_below {w w' : World} (h : Below w.heap.size w w') : Upd [] w w' := ⟨h.os, h.tape, h.output, h.size, fun k hk _ => h.block k hk⟩
theorem Upd.cell {fp : List Nat} {w w' : World} (h : Upd fp w w') {p : Addr} (hp : p.block < w.heap.size) (hn : p.block ∉ fp) : w'.cell? p = w.cell? p := World.cell?_of_block (w := w) (h.block p.block hp hn)
theorem Upd.at {fp : List Nat} {w w' : World} (h : Upd fp w w') {b : Nat} (hb : b < w.heap.size) (hn : b ∉ fp) (o : Nat) : w'.cell? ⟨b, o, none⟩ = w.cell? ⟨b, o, none⟩ := h.cell (p := ⟨b, o, none⟩) hb hn
theorem Upd.frz {fp : List Nat} {w w' : World} (h : Upd fp w w') {p : Addr} (hp : p.block < w.heap.size) (hn : p.block ∉ fp) : w'.frozen? p = w.frozen? p := World.frozen?_of_block (w := w) (h.block p.block hp hn)

/-- A block of cells, known whole, none of them frozen. -/
def Blk (w : World) (b : Nat) (cs : List Value) (t : TypeId) : Prop := w.heap[b]? = some (.cells cs.toArray t (0, 0))
theorem Blk.lt {w : World} {b : Nat} {cs : List Value} {t : TypeId} (h : Blk w b cs t) : b < w.heap.size := (Array.getElem?_eq_some_iff.1 h).1
theorem Blk.cell {w : World} {b : Nat} {cs : List Value} {t : TypeId} (h : Blk w b cs t) (i : Nat) {v : Value} (hi : cs[i]? = some v) : w.cell? ⟨b, i, none⟩ = some v := by
  unfold Blk at h
  simp [World.cell?, h, hi]
theorem Blk.frz {w : World} {b : Nat} {cs : List Value} {t : TypeId} (h : Blk w b cs t) (i : Nat) : w.frozen? ⟨b, i, none⟩ = false := by
  unfold Blk at h
  simp [World.frozen?, h]
theorem Blk.upd {w w' : World} {b : Nat} {cs : List Value} {t : TypeId} {fp : List Nat} (h : Blk w b cs t) (hu : Upd fp w w') (hn : b ∉ fp) : Blk w' b cs t := (hu.block b h.lt hn).trans h
theorem Blk.set {w : World} {b : Nat} {cs : List Value} {t : TypeId} (h : Blk w b cs t) (i : Nat) (v : Value) : Blk (w.setCell ⟨b, i, none⟩ v) b (cs.set i v) t := by
  unfold Blk at h ⊢
  simp [World.setCell, Array.getElem?_modify, h]
theorem Blk.setFar {w : World} {b : Nat} {cs : List Value} {t : TypeId} (h : Blk w b cs t) {a : Addr} (v : Value) (hn : b ≠ a.block) : Blk (w.setCell a v) b cs t :=
  (Below.heap_setCell _ _ _ _ hn).trans h
theorem Blk.alloc {w : World} {b : Nat} {cs : List Value} {t : TypeId} (h : Blk w b cs t) (o : Obj) : Blk (w.alloc o) b cs t := (Below.heap_alloc _ _ _ h.lt).trans h
theorem Blk.new (w : World) (cs : List Value) (t : TypeId) : Blk (w.alloc (.cells cs.toArray t)) w.heap.size cs t := heap_alloc_new w _
theorem Blk.drew {w : World} {b : Nat} {cs : List Value} {t : TypeId} (h : Blk w b cs t) : Blk w.drew b cs t := h
theorem Blk.drewN {w : World} {b : Nat} {cs : List Value} {t : TypeId} (h : Blk w b cs t) (n : Nat) : Blk (w.drewN n) b cs t := h
theorem Blk.grown {w w' : World} {b : Nat} {cs : List Value} {t : TypeId} {row : Option Nat} (h : Blk w b cs t) (hg : w.grownBy w' row) (hn : row ≠ some b) : Blk w' b cs t := (hg.block b h.lt (Ne.symm hn)).trans h

/-- A slice value that owns the row xs of n elements of type e (size cells each). -/
def Row (w : World) (e : TypeId) (size : Nat) (v : Value) (n : Nat) (xs : List Value) : Prop := w.ownsRow 0 e size v n xs
theorem Row.nil (w : World) (e : TypeId) (size : Nat) : Row w e size (.slice none 0 0) 0 [] := World.ownsRow_nil w 0 e size
theorem Row.upd {w w' : World} {e : TypeId} {size : Nat} {v : Value} {n : Nat} {xs : List Value} {fp : List Nat} (h : Row w e size v n xs) (hu : Upd fp w w') (hn : ∀ k, v.ownBlock = some k → k ∉ fp) : Row w' e size v n xs := by
  refine ⟨h.1, ?_⟩
  rcases h.2 with h2 | ⟨g, cap, cur, hv, hb, hg, hr⟩
  · exact .inl h2
  · exact .inr ⟨g, cap, cur, hv, hb, (hu.block g (Array.getElem?_eq_some_iff.1 hg).1 (hn g (by rw [hv]; rfl))).trans hg, hr⟩
theorem Row.setFar {w : World} {e : TypeId} {size : Nat} {v : Value} {n : Nat} {xs : List Value} (h : Row w e size v n xs) {a : Addr} (u : Value) (hn : v.ownBlock ≠ some a.block) : Row (w.setCell a u) e size v n xs :=
  h.upd ((Upd.refl [a.block] w).setCell (.inl (by simp)) u) (fun k hk hm => hn (by simp at hm; rw [hk, hm]))
theorem Row.alloc {w : World} {e : TypeId} {size : Nat} {v : Value} {n : Nat} {xs : List Value} (h : Row w e size v n xs) (o : Obj) : Row (w.alloc o) e size v n xs :=
  h.upd ((Upd.refl [] w).alloc o) (fun _ _ h => by simp at h)
theorem Row.drew {w : World} {e : TypeId} {size : Nat} {v : Value} {n : Nat} {xs : List Value} (h : Row w e size v n xs) : Row w.drew e size v n xs := h
theorem Row.drewN {w : World} {e : TypeId} {size : Nat} {v : Value} {n : Nat} {xs : List Value} (h : Row w e size v n xs) (k : Nat) : Row (w.drewN k) e size v n xs := h
theorem Row.lt {w : World} {e : TypeId} {size : Nat} {v : Value} {n : Nat} {xs : List Value} (h : Row w e size v n xs) : ∀ k, v.ownBlock = some k → k < w.heap.size := fun k hk => (World.ownsRow.lt h k hk).2
theorem Row.len {w : World} {e : TypeId} {size : Nat} {v : Value} {n : Nat} {xs : List Value} (h : Row w e size v n xs) : xs.length = n * size := h.1
/-- What the value of a row looks like. -/
theorem Row.form {w : World} {e : TypeId} {size : Nat} {v : Value} {n : Nat} {xs : List Value} (h : Row w e size v n xs) : ∃ a cap, v = .slice a n cap := by
  rcases h.2 with ⟨rfl, rfl⟩ | ⟨g, cap, cur, rfl, _⟩
  · exact ⟨none, 0, rfl⟩
  · exact ⟨_, cap, rfl⟩
theorem Row.form' {w : World} {e : TypeId} {size : Nat} {v : Value} {n : Nat} {xs : List Value} (h : Row w e size v n xs) (hn : 0 < n) : ∃ g cap, v = .slice (some ⟨g, 0, none⟩) n cap ∧ g < w.heap.size ∧ n ≤ cap := by
  rcases h.2 with ⟨rfl, rfl⟩ | ⟨g, cap, cur, rfl, _, hg, hc, _⟩
  · omega
  · exact ⟨g, cap, rfl, (Array.getElem?_eq_some_iff.1 hg).1, hc⟩
/-- An element's cell. -/
theorem Row.cell {w : World} {e : TypeId} {size g n cap : Nat} {xs : List Value} (h : Row w e size (.slice (some ⟨g, 0, none⟩) n cap) n xs) (j : Nat) {u : Value} (hu : xs[j]? = some u) : w.cell? ⟨g, j, none⟩ = some u := by
  have hj : j < n * size := by rw [← h.1]; exact (List.getElem?_eq_some_iff.1 hu).1
  rw [World.ownsRow.cellAt h j hj]; exact hu
theorem Row.frz {w : World} {e : TypeId} {size g n cap : Nat} {xs : List Value} (h : Row w e size (.slice (some ⟨g, 0, none⟩) n cap) n xs) (j : Nat) : w.frozen? ⟨g, j, none⟩ = false := World.ownsRow.frozenAt h j
theorem Row.set {w : World} {e : TypeId} {size g n cap : Nat} {xs : List Value} (h : Row w e size (.slice (some ⟨g, 0, none⟩) n cap) n xs) (j : Nat) (u : Value) : Row (w.setCell ⟨g, j, none⟩ u) e size (.slice (some ⟨g, 0, none⟩) n cap) n (xs.set j u) := (World.ownsRow.stored h j u).1
theorem Row.of_owns {w : World} {base : Nat} {e : TypeId} {size : Nat} {v : Value} {n : Nat} {xs : List Value} (h : w.ownsRow base e size v n xs) : Row w e size v n xs := by
  refine ⟨h.1, ?_⟩
  rcases h.2 with h2 | ⟨g, cap, cur, hv, hb, hr⟩
  · exact .inl h2
  · exact .inr ⟨g, cap, cur, hv, Nat.zero_le _, hr⟩
/-- A row that has just been laid, cells written out. -/
theorem Row.new (w : World) (cs : List Value) (e : TypeId) (n size : Nat) (hm : n ≤ maxLen) (hs : cs.length = n * size) : Row (w.alloc (.cells cs.toArray e)) e size (.slice (some ⟨w.heap.size, 0, none⟩) n n) n cs := by
  have h := World.ownsRow_lit (base := 0) (e := e) (size := size) w cs.toArray n (Nat.zero_le _) hm (by simpa using hs)
  exact h
end Go.Proofs.YtdehkaknbmbieaaGreat
namespace Go.Proofs.YtdehkaknbmbieaaGreat
set_option linter.unusedVariables false
set_option linter.unusedSimpArgs false
set_option linter.unusedSectionVars false
open Go.RowKit Go.Maps Go.WideMaps

theorem ownsMap_upd {H : Type} {P : Program} {k : TypeId} {R : Value → Option (DataW H × List MemPlace)} {w w' : World} {b n : Nat} {D : DataW H} {fp : List Nat} (h : w.ownsMap P k R b n D) (hu : Upd fp w w') (hn : b ∉ fp) : w'.ownsMap P k R b n D := by
  have hlt := h.lt
  obtain ⟨es, clock, hb, F⟩ := h
  exact ⟨es, clock, (hu.block b hlt hn).trans hb, F⟩
/-- Block b is a map of at most n texts; what it holds at each is f. -/
def CntMap (P : Program) (k e : TypeId) (w : World) (b n : Nat) (f : List UInt8 → Nat) : Prop :=
  ∃ D : DataW Unit, w.ownsMap P k (plainElem P e) b n D ∧ ∀ p, D.atKey (.string p) (.lit (.int .i64 0)) = .lit (.int .i64 (f p : Nat))
variable {P : Program} {k e t : TypeId}
theorem CntMap.new (w : World) : CntMap P k e (w.alloc (.map #[] 0)) w.heap.size 0 (fun _ => 0) :=
  ⟨.map [], World.ownsMap_made _ _ _ _, fun p => rfl⟩
theorem CntMap.upd {w w' : World} {b n : Nat} {f : List UInt8 → Nat} {fp : List Nat} (h : CntMap P k e w b n f) (hu : Upd fp w w') (hn : b ∉ fp) : CntMap P k e w' b n f := by
  obtain ⟨D, h1, h2⟩ := h
  exact ⟨D, ownsMap_upd h1 hu hn, h2⟩
theorem CntMap.alloc {w : World} {b n : Nat} {f : List UInt8 → Nat} (h : CntMap P k e w b n f) (o : Obj) : CntMap P k e (w.alloc o) b n f := h.upd ((Upd.refl [] w).alloc o) (by simp)
theorem CntMap.drew {w : World} {b n : Nat} {f : List UInt8 → Nat} (h : CntMap P k e w b n f) : CntMap P k e w.drew b n f := h.upd (Upd.refl [] w).drew (by simp)
theorem CntMap.lt {w : World} {b n : Nat} {f : List UInt8 → Nat} (h : CntMap P k e w b n f) : b < w.heap.size := by obtain ⟨D, h1, _⟩ := h; exact h1.lt
/-- A look-up's run. -/
theorem CntMap.look {w : World} {b n : Nat} {f : List UInt8 → Nat} (h : CntMap P k e w b n f) (hk : P.underlying k = some .string) (ht : P.underlying t = some (.map k e)) (he : P.underlying e = some (.int .i64)) (hz : (zeroValue e).run P w = .ok (.int .i64 0) w) (s : ByteArray) (hs : s.size ≤ maxLen) :
    (Instr.lookup t (.map (some b)) (.string s) false).run P w = .ok (.int .i64 (f s.data.toList : Nat)) w := by
  obtain ⟨D, h1, h2⟩ := h
  obtain ⟨c, hrun, hat, _⟩ := h1.lookup_int (string_keyed hk) ht he hz (keyOf_string_mk hk hs)
  rw [h2] at hat
  simp only [DataW.lit.injEq, Lit.int.injEq, true_and] at hat
  rw [hrun, ← hat]
/-- A store at a text. -/
theorem CntMap.store {w : World} {b n : Nat} {f : List UInt8 → Nat} (h : CntMap P k e w b n f) (hk : P.underlying k = some .string) (ht : P.underlying t = some (.map k e)) (he : P.underlying e = some (.int .i64)) (s : ByteArray) (hs : s.size ≤ maxLen) (hn : n < maxLen) (v : Nat) (hv : v ≤ 9223372036854775807) :
    ∃ w', (Instr.mapUpdate t (.map (some b)) (.string s) (.int .i64 (v : Nat))).run P w = .ok () w' ∧ CntMap P k e w' b (n + 1) (fun p => if p = s.data.toList then v else f p) ∧ Upd [b] w w' := by
  obtain ⟨D, h1, h2⟩ := h
  have hw : (Lit.int .i64 (v : Nat)).wf = true := by simp [Lit.wf, IntKind.min, IntKind.max, IntKind.signed, IntKind.bits]; omega
  obtain ⟨w', hr, h3, h4⟩ := h1.update (string_keyed hk) ht hn (keyOf_string_mk hk hs) (plainElem_int he hw)
  refine ⟨w', hr, ⟨_, h3, fun p => ?_⟩, (Upd.refl _ w).grown h4 (fun j hj => .inl (by simp at hj; simp [hj]))⟩
  show (D.put (Lit.string s.data.toList) (DataW.lit (Lit.int .i64 (v : Nat)))).atKey (.string p) (.lit (.int .i64 0)) = .lit (.int .i64 ((if p = s.data.toList then v else f p : Nat) : Int))
  by_cases hp : p = s.data.toList
  · subst hp
    rw [if_pos rfl, atKey_put_same (h1.tidy (string_keyed hk)).isMap (by trivial)]
  · rw [if_neg hp, atKey_put_other (by intro e; simp at e; exact hp e)]
    exact h2 p
end Go.Proofs.YtdehkaknbmbieaaGreat
namespace Go.Proofs.YtdehkaknbmbieaaGreat
set_option linter.unusedVariables false
set_option linter.unusedSimpArgs false
set_option linter.unusedSectionVars false

inductive Coin where
  | leaf (w s : Nat)
  | pack (a b : Coin)
def Coin.w : Coin → Nat
  | .leaf w _ => w
  | .pack a b => a.w + b.w
def Coin.cnt (s : Nat) : Coin → Nat
  | .leaf _ t => if t = s then 1 else 0
  | .pack a b => a.cnt s + b.cnt s
def sumW (l : List Coin) : Nat := (l.map Coin.w).sum
def sumC (s : Nat) (l : List Coin) : Nat := (l.map (Coin.cnt s)).sum
def leC (x y : Coin) : Bool := decide (x.w ≤ y.w)
def mergeC (a b : List Coin) : List Coin := List.merge a b leC
def packC : List Coin → List Coin
  | a :: b :: r => .pack a b :: packC r
  | [_] => []
  | [] => []
def rowC (lv : List Coin) : Nat → List Coin
  | 0 => []
  | j + 1 => mergeC lv (packC (rowC lv j))

theorem sumW_append (a b : List Coin) : sumW (a ++ b) = sumW a + sumW b := by simp [sumW]
theorem sumC_append (s : Nat) (a b : List Coin) : sumC s (a ++ b) = sumC s a + sumC s b := by simp [sumC]
theorem sumW_cons (a : Coin) (b : List Coin) : sumW (a :: b) = a.w + sumW b := by simp [sumW]
theorem sumC_cons (s : Nat) (a : Coin) (b : List Coin) : sumC s (a :: b) = a.cnt s + sumC s b := by simp [sumC]
theorem sumW_perm {a b : List Coin} (h : a.Perm b) : sumW a = sumW b := (h.map _).sum_nat
theorem sumC_perm {s : Nat} {a b : List Coin} (h : a.Perm b) : sumC s a = sumC s b := (h.map _).sum_nat

theorem mergeC_nil (b : List Coin) : mergeC [] b = b := by unfold mergeC; rw [List.nil_merge]
theorem mergeC_right (a : List Coin) : mergeC a [] = a := by unfold mergeC; rw [List.merge_right]
theorem mergeC_cons (x y : Coin) (a b : List Coin) : mergeC (x :: a) (y :: b) = if x.w ≤ y.w then x :: mergeC a (y :: b) else y :: mergeC (x :: a) b := by
  unfold mergeC
  rw [List.cons_merge_cons]
  by_cases h : x.w ≤ y.w
  · rw [if_pos h, if_pos (by unfold leC; exact decide_eq_true h)]
  · rw [if_neg h, if_neg (by unfold leC; simpa using h)]
theorem mergeC_length (a b : List Coin) : (mergeC a b).length = a.length + b.length := by unfold mergeC; exact List.length_merge ..
theorem packC_length : ∀ l : List Coin, (packC l).length = l.length / 2
  | [] => rfl
  | [_] => by simp [packC]
  | a :: b :: r => by
    show (packC r).length + 1 = (r.length + 2) / 2
    rw [packC_length r]; omega
/-- Rising rows. -/
def Rise (l : List Coin) : Prop := l.Pairwise (fun x y => x.w ≤ y.w)
theorem mergeC_rise {a b : List Coin} (ha : Rise a) (hb : Rise b) : Rise (mergeC a b) := by
  induction a generalizing b with
  | nil => rw [mergeC_nil]; exact hb
  | cons x a iha =>
    induction b with
    | nil => rw [mergeC_right]; exact ha
    | cons y b ihb =>
      rw [mergeC_cons]
      have ha' := List.pairwise_cons.1 ha
      have hb' := List.pairwise_cons.1 hb
      by_cases h : x.w ≤ y.w
      · rw [if_pos h]
        refine List.pairwise_cons.2 ⟨?_, iha ha'.2 hb⟩
        intro z hz
        unfold mergeC at hz
        rcases List.mem_merge.1 hz with hz | hz
        · exact ha'.1 z hz
        · rcases List.mem_cons.1 hz with rfl | hz
          · exact h
          · exact Nat.le_trans h (hb'.1 z hz)
      · rw [if_neg h]
        refine List.pairwise_cons.2 ⟨?_, ihb hb'.2⟩
        intro z hz
        unfold mergeC at hz
        rcases List.mem_merge.1 hz with hz | hz
        · rcases List.mem_cons.1 hz with rfl | hz
          · omega
          · have := ha'.1 z hz; omega
        · exact hb'.1 z hz
theorem packC_mem : ∀ {l : List Coin} {z : Coin}, z ∈ packC l → ∃ a b, a ∈ l ∧ b ∈ l ∧ z = .pack a b
  | a :: b :: r, z, h => by
    rcases List.mem_cons.1 h with rfl | h
    · exact ⟨a, b, by simp, by simp, rfl⟩
    · obtain ⟨c, d, h1, h2, h3⟩ := packC_mem h
      exact ⟨c, d, by simp [h1], by simp [h2], h3⟩
theorem packC_rise : ∀ {l : List Coin}, Rise l → Rise (packC l)
  | [], _ => List.Pairwise.nil
  | [_], _ => List.Pairwise.nil
  | a :: b :: r, h => by
    have h1 := List.pairwise_cons.1 h
    have h2 := List.pairwise_cons.1 h1.2
    refine List.pairwise_cons.2 ⟨?_, packC_rise h2.2⟩
    intro z hz
    obtain ⟨c, d, hc, hd, rfl⟩ := packC_mem hz
    have e1 := h1.1 c (by simp [hc])
    have e2 := h2.1 d hd
    show a.w + b.w ≤ c.w + d.w
    omega
theorem rowC_rise {lv : List Coin} (h : Rise lv) : ∀ j, Rise (rowC lv j)
  | 0 => List.Pairwise.nil
  | j + 1 => mergeC_rise h (packC_rise (rowC_rise h j))
/-- The first p pairs have what the first 2p coins have. -/
theorem packC_take : ∀ (p : Nat) (l : List Coin), 2 * p ≤ l.length → sumW ((packC l).take p) = sumW (l.take (2 * p)) ∧ (∀ s, sumC s ((packC l).take p) = sumC s (l.take (2 * p))) ∧ ∀ x ∈ l.take (2 * p), ∃ y ∈ (packC l).take p, x.w ≤ y.w
  | 0, l, _ => by simp [sumW, sumC]
  | p + 1, l, h => by
    match l, h with
    | a :: b :: r, h =>
      have hr : 2 * p ≤ r.length := by simp at h; omega
      obtain ⟨h1, h2, h3⟩ := packC_take p r hr
      have e : 2 * (p + 1) = 2 * p + 1 + 1 := by omega
      rw [e]
      simp only [packC, List.take_succ_cons, sumW_cons, sumC_cons, h1, h2]
      refine ⟨by show a.w + b.w + _ = _; omega, fun s => by show a.cnt s + b.cnt s + _ = _; omega, ?_⟩
      intro x hx
      rcases List.mem_cons.1 hx with rfl | hx
      · exact ⟨_, List.mem_cons_self, by show x.w ≤ x.w + b.w; omega⟩
      · rcases List.mem_cons.1 hx with rfl | hx
        · exact ⟨_, List.mem_cons_self, by show x.w ≤ a.w + x.w; omega⟩
        · obtain ⟨y, hy, hxy⟩ := h3 x hx
          exact ⟨y, List.mem_cons_of_mem _ hy, hxy⟩
/-- Where the first coins of a merged row come from. -/
theorem mergeC_take : ∀ (a b : List Coin) (c : Nat), Rise a → c ≤ a.length + b.length →
    ∃ t, t ≤ c ∧ t ≤ a.length ∧ c - t ≤ b.length ∧ ((mergeC a b).take c).Perm (a.take t ++ b.take (c - t)) ∧ (∀ (h : t < a.length), ∀ y ∈ b.take (c - t), y.w < a[t].w) := by
  intro a
  induction a with
  | nil =>
    intro b c _ hc
    refine ⟨0, by omega, by simp, by simpa using hc, ?_, fun h => by simp at h⟩
    rw [mergeC_nil]; simp
  | cons x a iha =>
    intro b
    induction b with
    | nil =>
      intro c ha hc
      refine ⟨c, by omega, by simpa using hc, by simp, ?_, ?_⟩
      · rw [mergeC_right]; simp
      · intro h y hy; simp at hy
    | cons y b ihb =>
      intro c ha hc
      have ha' := List.pairwise_cons.1 ha
      cases c with
      | zero => exact ⟨0, by omega, by omega, by omega, by simp, fun h y hy => by simp at hy⟩
      | succ c =>
        rw [mergeC_cons]
        by_cases hxy : x.w ≤ y.w
        · rw [if_pos hxy]
          obtain ⟨t, h1, h2, h3, h4, h5⟩ := iha (y :: b) c ha'.2 (by simp at hc ⊢; omega)
          refine ⟨t + 1, by omega, by simp; omega, by rw [Nat.add_sub_add_right]; exact h3, ?_, ?_⟩
          · rw [List.take_succ_cons, List.take_succ_cons, Nat.add_sub_add_right]
            exact List.Perm.cons x h4
          · intro h z hz
            rw [Nat.add_sub_add_right] at hz
            exact h5 (by simpa using h) z hz
        · rw [if_neg hxy]
          obtain ⟨t, h1, h2, h3, h4, h5⟩ := ihb c ha (by simp at hc ⊢; omega)
          have e : c + 1 - t = (c - t) + 1 := by omega
          refine ⟨t, by omega, h2, by rw [e]; simp; omega, ?_, ?_⟩
          · rw [e, List.take_succ_cons, List.take_succ_cons]
            exact (List.Perm.cons y h4).trans List.perm_middle.symm
          · intro h z hz
            rw [e, List.take_succ_cons] at hz
            rcases List.mem_cons.1 hz with rfl | hz
            · have : x.w ≤ (x :: a)[t].w := by
                cases t with
                | zero => exact Nat.le_refl _
                | succ t => exact ha'.1 _ (List.getElem_mem ..)
              omega
            · exact h5 h z hz
/-- The first coins of a merged row weigh at most what any first coins of both weigh. -/
theorem mergeC_least : ∀ (a b : List Coin) (i k : Nat), Rise a → Rise b → i ≤ a.length → k ≤ b.length → sumW ((mergeC a b).take (i + k)) ≤ sumW (a.take i) + sumW (b.take k) := by
  intro a
  induction a with
  | nil =>
    intro b i k _ _ hi hk
    have : i = 0 := by simpa using hi
    subst this
    rw [mergeC_nil]; simp [sumW]
  | cons x a iha =>
    intro b
    induction b with
    | nil =>
      intro i k _ _ hi hk
      have : k = 0 := by simpa using hk
      subst this
      rw [mergeC_right]; simp
    | cons y b ihb =>
      intro i k ha hb hi hk
      have ha' := List.pairwise_cons.1 ha
      have hb' := List.pairwise_cons.1 hb
      rw [mergeC_cons]
      by_cases hxy : x.w ≤ y.w
      · rw [if_pos hxy]
        cases i with
        | succ i =>
          rw [show i + 1 + k = (i + k) + 1 by omega, List.take_succ_cons, List.take_succ_cons, sumW_cons, sumW_cons]
          have := iha (y :: b) i k ha'.2 hb (by simpa using hi) hk
          omega
        | zero =>
          cases k with
          | zero => simp [sumW]
          | succ k =>
            rw [Nat.zero_add, List.take_succ_cons, sumW_cons]
            have h1 := iha (y :: b) 0 k ha'.2 hb (by omega) (by omega)
            rw [Nat.zero_add] at h1
            have hk' : k < (y :: b).length := by omega
            have h2 : sumW ((y :: b).take (k + 1)) = sumW ((y :: b).take k) + (y :: b)[k].w := by
              rw [List.take_succ_eq_append_getElem hk', sumW_append]; simp [sumW]
            have h3 : y.w ≤ (y :: b)[k].w := by
              cases k with
              | zero => exact Nat.le_refl _
              | succ k => exact hb'.1 _ (List.getElem_mem ..)
            rw [h2]
            simp only [List.take_zero] at h1 ⊢
            omega
      · rw [if_neg hxy]
        cases k with
        | succ k =>
          rw [show i + (k + 1) = (i + k) + 1 by omega, List.take_succ_cons, List.take_succ_cons, sumW_cons, sumW_cons]
          have := ihb i k ha hb'.2 hi (by simpa using hk)
          omega
        | zero =>
          cases i with
          | zero => simp [sumW]
          | succ i =>
            rw [Nat.add_zero, List.take_succ_cons, sumW_cons]
            have h1 := ihb i 0 ha hb'.2 (by omega) (by omega)
            rw [Nat.add_zero] at h1
            have hi' : i < (x :: a).length := by omega
            have h2 : sumW ((x :: a).take (i + 1)) = sumW ((x :: a).take i) + (x :: a)[i].w := by
              rw [List.take_succ_eq_append_getElem hi', sumW_append]; simp [sumW]
            have h3 : x.w ≤ (x :: a)[i].w := by
              cases i with
              | zero => exact Nat.le_refl _
              | succ i => exact ha'.1 _ (List.getElem_mem ..)
            rw [h2]
            simp only [List.take_zero] at h1 ⊢
            omega
/-- A row is long enough. -/
theorem rowC_length (lv : List Coin) : ∀ (j x : Nat), x * 2 ^ j ≤ 2 * lv.length * (2 ^ j - 1) → x ≤ (rowC lv j).length
  | 0, x, h => by simp at h; omega
  | j + 1, x, h => by
    show x ≤ (mergeC lv (packC (rowC lv j))).length
    rw [mergeC_length, packC_length]
    by_cases hx : x ≤ lv.length
    · omega
    · have hp : 0 < 2 ^ j := Nat.two_pow_pos j
      have := rowC_length lv j (2 * (x - lv.length)) (by
        rw [Nat.pow_succ] at h
        generalize 2 ^ j = p at *
        obtain ⟨y, rfl⟩ : ∃ y, x = lv.length + y := ⟨x - lv.length, by omega⟩
        obtain ⟨q, rfl⟩ : ∃ q, p = q + 1 := ⟨p - 1, by omega⟩
        generalize lv.length = n at *
        have e1 : n + y - n = y := by omega
        rw [e1]
        have e2 : q + 1 - 1 = q := by omega
        rw [e2]
        have e3 : (q + 1) * 2 - 1 = 2 * q + 1 := by omega
        rw [e3] at h
        simp only [Nat.mul_add, Nat.add_mul, Nat.mul_one, Nat.one_mul] at h ⊢
        have p1 : 2 * y * q = 2 * (y * q) := Nat.mul_assoc ..
        have p2 : 2 * n * q = 2 * (n * q) := Nat.mul_assoc ..
        have p3 : n * (q * 2) = 2 * (n * q) := by rw [← Nat.mul_assoc, Nat.mul_comm]
        have p4 : y * (q * 2) = 2 * (y * q) := by rw [← Nat.mul_assoc, Nat.mul_comm]
        have p5 : 2 * n * (2 * q) = 4 * (n * q) := by
          rw [Nat.mul_assoc, Nat.mul_left_comm n 2 q]; omega
        rw [p3, p4, p5] at h
        rw [p1, p2]
        omega)
      omega
/-- What counts leave: the numbers of leaves that the rows take, the outermost first. -/
def amt : List Nat → Nat
  | [] => 0
  | t :: ts => t * 2 ^ ts.length + amt ts
/-- The first coins of a row: which leaves they hold, level by level. -/
theorem row_parts (lv : List Coin) (hr : Rise lv) : ∀ (j c : Nat), c ≤ (rowC lv j).length →
    ∃ ts : List Nat, ts.length = j ∧ (∀ t ∈ ts, t ≤ lv.length) ∧ ts.Pairwise (fun a b => b ≤ a) ∧ 2 * amt ts = c * 2 ^ j ∧
      sumW ((rowC lv j).take c) = (ts.map fun t => sumW (lv.take t)).sum ∧ (∀ s, sumC s ((rowC lv j).take c) = (ts.map fun t => sumC s (lv.take t)).sum) ∧
      (∀ t, ts.head? = some t → ∀ x ∈ lv.take t, x ∈ (rowC lv j).take c)
  | 0, c, h => by
    have : c = 0 := by simpa [rowC] using h
    subst this
    exact ⟨[], rfl, by simp, List.Pairwise.nil, by simp [amt], by simp [sumW], by simp [sumC], by simp⟩
  | j + 1, c, h => by
    have h' : c ≤ lv.length + (packC (rowC lv j)).length := by
      have e : (rowC lv (j + 1)).length = _ := mergeC_length lv (packC (rowC lv j))
      omega
    obtain ⟨t, h1, h2, h3, h4, h5⟩ := mergeC_take lv (packC (rowC lv j)) c hr h'
    have h3' : 2 * (c - t) ≤ (rowC lv j).length := by rw [packC_length] at h3; omega
    obtain ⟨ts, k1, k2, k3, k4, k5, k6, k7⟩ := row_parts lv hr j (2 * (c - t)) h3'
    obtain ⟨q1, q2, q3⟩ := packC_take (c - t) (rowC lv j) h3'
    refine ⟨t :: ts, by simp [k1], ?_, ?_, ?_, ?_, ?_, ?_⟩
    · intro x hx
      rcases List.mem_cons.1 hx with rfl | hx
      · exact h2
      · exact k2 x hx
    · refine List.pairwise_cons.2 ⟨?_, k3⟩
      -- the head of ts is at most t: a leaf used deeper stands in a pack that is used here
      have hh : ∀ u, ts.head? = some u → u ≤ t := by
        intro u hu
        apply Nat.le_of_not_lt
        intro hlt
        have hul : u ≤ lv.length := k2 u (List.mem_of_mem_head? hu)
        have ht : t < lv.length := by omega
        have hm : lv[t] ∈ lv.take u := by
          rw [List.mem_take_iff_getElem]
          exact ⟨t, by omega, rfl⟩
        obtain ⟨y, hy, hyw⟩ := q3 _ (k7 u hu _ hm)
        have := h5 ht y hy
        omega
      intro b hb
      cases ts with
      | nil => simp at hb
      | cons u r =>
        have hu := hh u rfl
        rcases List.mem_cons.1 hb with rfl | hb
        · exact hu
        · exact Nat.le_trans ((List.pairwise_cons.1 k3).1 b hb) hu
    · have e1 : 2 * amt (t :: ts) = 2 * (t * 2 ^ j) + 2 * amt ts := by simp only [amt, k1]; omega
      rw [e1, k4, Nat.pow_succ]
      obtain ⟨d, rfl⟩ : ∃ d, c = t + d := ⟨c - t, by omega⟩
      rw [show t + d - t = d by omega]
      simp only [Nat.add_mul]
      have p1 : t * (2 ^ j * 2) = 2 * (t * 2 ^ j) := by rw [← Nat.mul_assoc, Nat.mul_comm]
      have p2 : d * (2 ^ j * 2) = 2 * (d * 2 ^ j) := by rw [← Nat.mul_assoc, Nat.mul_comm]
      have p3 : 2 * d * 2 ^ j = 2 * (d * 2 ^ j) := Nat.mul_assoc ..
      omega
    · show sumW ((mergeC lv (packC (rowC lv j))).take c) = _
      rw [sumW_perm h4, sumW_append, q1, k5]
      simp
    · intro s
      show sumC s ((mergeC lv (packC (rowC lv j))).take c) = _
      rw [sumC_perm h4, sumC_append, q2, k6]
      simp
    · intro u hu x hx
      simp at hu
      subst hu
      exact h4.symm.mem_iff.1 (List.mem_append.2 (.inl hx))
/-- Whatever is taken, level by level, weighs no less. -/
theorem row_least (lv : List Coin) (hr : Rise lv) : ∀ (as : List (Nat × Nat)) (c : Nat), (∀ p ∈ as, p.1 ≤ lv.length ∧ sumW (lv.take p.1) ≤ p.2) → c * 2 ^ as.length ≤ 2 * amt (as.map Prod.fst) →
    c ≤ (rowC lv as.length).length ∧ sumW ((rowC lv as.length).take c) ≤ (as.map Prod.snd).sum
  | [], c, _, h => by
    have : c = 0 := by simpa [amt] using h
    subst this
    simp [sumW]
  | (a, x) :: as, c, hp, h => by
    obtain ⟨ha, hx⟩ := hp (a, x) List.mem_cons_self
    have ha : a ≤ lv.length := ha
    have hx : sumW (lv.take a) ≤ x := hx
    have hl : ((a, x) :: as).length = as.length + 1 := rfl
    rw [hl] at h ⊢
    have hmap : amt (((a, x) :: as).map Prod.fst) = a * 2 ^ as.length + amt (as.map Prod.fst) := by simp [amt]
    rw [hmap, Nat.pow_succ] at h
    show c ≤ (mergeC lv (packC (rowC lv as.length))).length ∧ sumW ((mergeC lv (packC (rowC lv as.length))).take c) ≤ x + (as.map Prod.snd).sum
    rw [mergeC_length]
    by_cases hac : c ≤ a
    · refine ⟨by omega, ?_⟩
      have h1 := mergeC_least lv (packC (rowC lv as.length)) c 0 hr (packC_rise (rowC_rise hr _)) (by omega) (by omega)
      have h2 : sumW (lv.take c) ≤ sumW (lv.take a) := by
        obtain ⟨d, rfl⟩ : ∃ d, a = c + d := ⟨a - c, by omega⟩
        rw [List.take_add, sumW_append]
        omega
      simp [sumW] at h1 h2 hx ⊢
      omega
    · obtain ⟨d, rfl⟩ : ∃ d, c = a + d := ⟨c - a, by omega⟩
      have hih : (2 * d) * 2 ^ as.length ≤ 2 * amt (as.map Prod.fst) := by
        have p1 : (a + d) * (2 ^ as.length * 2) = 2 * (a * 2 ^ as.length) + 2 * (d * 2 ^ as.length) := by
          rw [← Nat.mul_assoc, Nat.add_mul]; omega
        have p3 : 2 * d * 2 ^ as.length = 2 * (d * 2 ^ as.length) := Nat.mul_assoc ..
        omega
      obtain ⟨i1, i2⟩ := row_least lv hr as (2 * d) (fun p hq => hp p (List.mem_cons_of_mem _ hq)) hih
      obtain ⟨q1, _, _⟩ := packC_take d (rowC lv as.length) i1
      have hd : d ≤ (packC (rowC lv as.length)).length := by rw [packC_length]; omega
      have h1 := mergeC_least lv (packC (rowC lv as.length)) a d hr (packC_rise (rowC_rise hr _)) ha hd
      refine ⟨by omega, ?_⟩
      omega
end Go.Proofs.YtdehkaknbmbieaaGreat

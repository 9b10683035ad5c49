/- Small laws on memory, of whatever program: what a step may have written (Upd), a block that is known whole (Blk), a row that the call owns (Row). -/
import Derived.WalkKit
import Derived.Deep.AppendLies
import Derived.Deep.Draws
import Derived.Lib.Hide
import Derived.Lib.AppendStr
import Derived.Maps.AppendAt
import Derived.Laws.BytesArg
import Derived.RangeFuncNested
import Derived.RangeFuncBound
import Derived.RangeFuncCalls
import Derived.RangeFuncLeaves
import Derived.Handy
import Derived.Outline
import Derived.BigQuiet
import Derived.Deep.CutBlock
import Derived.Deep.DeepCutAuto
import Derived.Deep.DeepFit
import Derived.Deep.Light
import Derived.Deep.LoopGhost
import Derived.Deep.QuietTactic
import Derived.Deep.RegionHeld3
import Derived.Deep.RegionLaw
import Derived.IntWalk
import Derived.Laws.BitsAllLaws
import Derived.Lib.MinMax
import Derived.StillTailTactics
import Derived.WalkSpells
import Derived.Laws.Rows
import Derived.OwnWalk
import Derived.Test.YtdehkaknbmbieaaRows
namespace Go.Proofs.Ytdehkaknbmbieaa
set_option linter.unusedVariables false
set_option linter.unusedSimpArgs false
set_option linter.unusedSectionVars false
open Go.RowKit

/-- Of the blocks that were there only those of fp may have turned; no block has gone; the streams are as they were. -/
structure Upd (fp : List Nat) (w w' : World) : Prop where
  os : w'.os = w.os
  tape : w'.tape = w.tape
  output : w'.output = w.output
  size : w.heap.size ≤ w'.heap.size
  block : ∀ k, k < w.heap.size → k ∉ fp → w'.heap[k]? = w.heap[k]?

theorem Upd.refl (fp : List Nat) (w : World) : Upd fp w w := ⟨rfl, rfl, rfl, Nat.le_refl _, fun _ _ _ => rfl⟩
theorem Upd.mono {fp fp' : List Nat} {w w' : World} (h : Upd fp w w') (hs : ∀ k, k ∈ fp → k ∈ fp' ∨ w.heap.size ≤ k) : Upd fp' w w' :=
  ⟨h.os, h.tape, h.output, h.size, fun k hk hn => h.block k hk fun hm => (hs k hm).elim hn (fun h' => by omega)⟩
theorem Upd.trans {fp fp' : List Nat} {a b c : World} (h : Upd fp a b) (k : Upd fp' b c) (hs : ∀ k, k ∈ fp' → k ∈ fp ∨ a.heap.size ≤ k) : Upd fp a c :=
  ⟨k.os.trans h.os, k.tape.trans h.tape, k.output.trans h.output, Nat.le_trans h.size k.size, fun i hi hn =>
    (k.block i (Nat.lt_of_lt_of_le hi h.size) fun hm => (hs i hm).elim hn (fun h' => by omega)).trans (h.block i hi hn)⟩
theorem Upd.then {fp : List Nat} {a b c : World} (h : Upd fp a b) (k : Upd fp b c) : Upd fp a c := h.trans k fun _ h => .inl h
theorem Upd.drew {fp : List Nat} {a w : World} (h : Upd fp a w) : Upd fp a w.drew := ⟨h.os, h.tape, h.output, h.size, h.block⟩
theorem Upd.drewN {fp : List Nat} {a w : World} (h : Upd fp a w) (n : Nat) : Upd fp a (w.drewN n) := ⟨h.os, h.tape, h.output, h.size, h.block⟩
theorem Upd.alloc {fp : List Nat} {a w : World} (h : Upd fp a w) (o : Obj) : Upd fp a (w.alloc o) :=
  ⟨h.os, h.tape, h.output, Nat.le_trans h.size (by simp), fun k hk hn => (Below.heap_alloc _ _ _ (Nat.lt_of_lt_of_le hk h.size)).trans (h.block k hk hn)⟩
theorem Upd.setCell {fp : List Nat} {a w : World} (h : Upd fp a w) {p : Addr} (hp : p.block ∈ fp ∨ a.heap.size ≤ p.block) (u : Value) : Upd fp a (w.setCell p u) :=
  ⟨h.os, h.tape, h.output, by rw [World.size_setCell]; exact h.size, fun k hk hn => (Below.heap_setCell _ _ _ _ (fun e => by subst e; exact hp.elim hn (fun h' => by omega))).trans (h.block k hk hn)⟩
theorem Upd.grown {fp : List Nat} {a w w' : World} {row : Option Nat} (h : Upd fp a w) (hg : w.grownBy w' row) (hr : ∀ k, row = some k → k ∈ fp ∨ a.heap.size ≤ k) : Upd fp a w' :=
  ⟨hg.os.trans h.os, hg.tape.trans h.tape, hg.output.trans h.output, Nat.le_trans h.size hg.size, fun k hk hn =>
    (hg.block k (Nat.lt_of_lt_of_le hk h.size) (fun e => (hr k e.symm).elim hn (fun h' => by omega))).trans (h.block k hk hn)⟩
theorem Upd.below {w w' : World} (h : Upd [] w w') : Below w.heap.size w w' := ⟨h.os, h.tape, h.output, h.size, fun k hk => h.block k hk (by simp)⟩
theorem Upd.of_below {w w' : World} (h : Below w.heap.size w w') : Upd [] w w' := ⟨h.os, h.tape, h.output, h.size, fun k hk _ => h.block k hk⟩
theorem Upd.below' {fp : List Nat} {B : Nat} {w w' : World} (h : Upd fp w w') (hB : B ≤ w.heap.size) (hf : ∀ k, k ∈ fp → B ≤ k) : Below B w w' :=
  ⟨h.os, h.tape, h.output, h.size, fun k hk => h.block k (by omega) (fun hm => by have := hf k hm; omega)⟩
theorem Upd.cell {fp : List Nat} {w w' : World} (h : Upd fp w w') {p : Addr} (hp : p.block < w.heap.size) (hn : p.block ∉ fp) : w'.cell? p = w.cell? p := World.cell?_of_block (w := w) (h.block p.block hp hn)
theorem Upd.at {fp : List Nat} {w w' : World} (h : Upd fp w w') {b : Nat} (hb : b < w.heap.size) (hn : b ∉ fp) (o : Nat) : w'.cell? ⟨b, o, none⟩ = w.cell? ⟨b, o, none⟩ := h.cell (p := ⟨b, o, none⟩) hb hn
theorem Upd.frz {fp : List Nat} {w w' : World} (h : Upd fp w w') {p : Addr} (hp : p.block < w.heap.size) (hn : p.block ∉ fp) : w'.frozen? p = w.frozen? p := World.frozen?_of_block (w := w) (h.block p.block hp hn)

/-- A block of cells, known whole, none of them frozen. -/
def Blk (w : World) (b : Nat) (cs : List Value) (t : TypeId) : Prop := w.heap[b]? = some (.cells cs.toArray t (0, 0))
theorem Blk.lt {w : World} {b : Nat} {cs : List Value} {t : TypeId} (h : Blk w b cs t) : b < w.heap.size := (Array.getElem?_eq_some_iff.1 h).1
theorem Blk.cell {w : World} {b : Nat} {cs : List Value} {t : TypeId} (h : Blk w b cs t) (i : Nat) {v : Value} (hi : cs[i]? = some v) : w.cell? ⟨b, i, none⟩ = some v := by
  unfold Blk at h
  simp [World.cell?, h, hi]
theorem Blk.frz {w : World} {b : Nat} {cs : List Value} {t : TypeId} (h : Blk w b cs t) (i : Nat) : w.frozen? ⟨b, i, none⟩ = false := by
  unfold Blk at h
  simp [World.frozen?, h]
theorem Blk.upd {w w' : World} {b : Nat} {cs : List Value} {t : TypeId} {fp : List Nat} (h : Blk w b cs t) (hu : Upd fp w w') (hn : b ∉ fp) : Blk w' b cs t := (hu.block b h.lt hn).trans h
theorem Blk.set {w : World} {b : Nat} {cs : List Value} {t : TypeId} (h : Blk w b cs t) (i : Nat) (v : Value) : Blk (w.setCell ⟨b, i, none⟩ v) b (cs.set i v) t := by
  unfold Blk at h ⊢
  simp [World.setCell, Array.getElem?_modify, h]
theorem Blk.setFar {w : World} {b : Nat} {cs : List Value} {t : TypeId} (h : Blk w b cs t) {a : Addr} (v : Value) (hn : b ≠ a.block) : Blk (w.setCell a v) b cs t :=
  (Below.heap_setCell _ _ _ _ hn).trans h
theorem Blk.alloc {w : World} {b : Nat} {cs : List Value} {t : TypeId} (h : Blk w b cs t) (o : Obj) : Blk (w.alloc o) b cs t := (Below.heap_alloc _ _ _ h.lt).trans h
theorem Blk.new (w : World) (cs : List Value) (t : TypeId) : Blk (w.alloc (.cells cs.toArray t)) w.heap.size cs t := heap_alloc_new w _
theorem Blk.drew {w : World} {b : Nat} {cs : List Value} {t : TypeId} (h : Blk w b cs t) : Blk w.drew b cs t := h
theorem Blk.drewN {w : World} {b : Nat} {cs : List Value} {t : TypeId} (h : Blk w b cs t) (n : Nat) : Blk (w.drewN n) b cs t := h
theorem Blk.grown {w w' : World} {b : Nat} {cs : List Value} {t : TypeId} {row : Option Nat} (h : Blk w b cs t) (hg : w.grownBy w' row) (hn : row ≠ some b) : Blk w' b cs t := (hg.block b h.lt (Ne.symm hn)).trans h

/-- A slice value that owns the row xs of n elements of type e (size cells each). -/
def Row (w : World) (e : TypeId) (size : Nat) (v : Value) (n : Nat) (xs : List Value) : Prop := w.ownsRow 0 e size v n xs
theorem Row.nil (w : World) (e : TypeId) (size : Nat) : Row w e size (.slice none 0 0) 0 [] := World.ownsRow_nil w 0 e size
theorem Row.upd {w w' : World} {e : TypeId} {size : Nat} {v : Value} {n : Nat} {xs : List Value} {fp : List Nat} (h : Row w e size v n xs) (hu : Upd fp w w') (hn : ∀ k, v.ownBlock = some k → k ∉ fp) : Row w' e size v n xs := by
  refine ⟨h.1, ?_⟩
  rcases h.2 with h2 | ⟨g, cap, cur, hv, hb, hg, hr⟩
  · exact .inl h2
  · exact .inr ⟨g, cap, cur, hv, hb, (hu.block g (Array.getElem?_eq_some_iff.1 hg).1 (hn g (by rw [hv]; rfl))).trans hg, hr⟩
theorem Row.setFar {w : World} {e : TypeId} {size : Nat} {v : Value} {n : Nat} {xs : List Value} (h : Row w e size v n xs) {a : Addr} (u : Value) (hn : v.ownBlock ≠ some a.block) : Row (w.setCell a u) e size v n xs :=
  h.upd ((Upd.refl [a.block] w).setCell (.inl (by simp)) u) (fun k hk hm => hn (by simp at hm; rw [hk, hm]))
theorem Row.alloc {w : World} {e : TypeId} {size : Nat} {v : Value} {n : Nat} {xs : List Value} (h : Row w e size v n xs) (o : Obj) : Row (w.alloc o) e size v n xs :=
  h.upd ((Upd.refl [] w).alloc o) (fun _ _ h => by simp at h)
theorem Row.drew {w : World} {e : TypeId} {size : Nat} {v : Value} {n : Nat} {xs : List Value} (h : Row w e size v n xs) : Row w.drew e size v n xs := h
theorem Row.drewN {w : World} {e : TypeId} {size : Nat} {v : Value} {n : Nat} {xs : List Value} (h : Row w e size v n xs) (k : Nat) : Row (w.drewN k) e size v n xs := h
theorem Row.lt {w : World} {e : TypeId} {size : Nat} {v : Value} {n : Nat} {xs : List Value} (h : Row w e size v n xs) : ∀ k, v.ownBlock = some k → k < w.heap.size := fun k hk => (World.ownsRow.lt h k hk).2
theorem Row.len {w : World} {e : TypeId} {size : Nat} {v : Value} {n : Nat} {xs : List Value} (h : Row w e size v n xs) : xs.length = n * size := h.1
/-- What the value of a row looks like. -/
theorem Row.form {w : World} {e : TypeId} {size : Nat} {v : Value} {n : Nat} {xs : List Value} (h : Row w e size v n xs) : ∃ a cap, v = .slice a n cap := by
  rcases h.2 with ⟨rfl, rfl⟩ | ⟨g, cap, cur, rfl, _⟩
  · exact ⟨none, 0, rfl⟩
  · exact ⟨_, cap, rfl⟩
theorem Row.form' {w : World} {e : TypeId} {size : Nat} {v : Value} {n : Nat} {xs : List Value} (h : Row w e size v n xs) (hn : 0 < n) : ∃ g cap, v = .slice (some ⟨g, 0, none⟩) n cap ∧ g < w.heap.size ∧ n ≤ cap := by
  rcases h.2 with ⟨rfl, rfl⟩ | ⟨g, cap, cur, rfl, _, hg, hc, _⟩
  · omega
  · exact ⟨g, cap, rfl, (Array.getElem?_eq_some_iff.1 hg).1, hc⟩
/-- An element's cell. -/
theorem Row.cell {w : World} {e : TypeId} {size g n cap : Nat} {xs : List Value} (h : Row w e size (.slice (some ⟨g, 0, none⟩) n cap) n xs) (j : Nat) {u : Value} (hu : xs[j]? = some u) : w.cell? ⟨g, j, none⟩ = some u := by
  have hj : j < n * size := by rw [← h.1]; exact (List.getElem?_eq_some_iff.1 hu).1
  rw [World.ownsRow.cellAt h j hj]; exact hu
theorem Row.frz {w : World} {e : TypeId} {size g n cap : Nat} {xs : List Value} (h : Row w e size (.slice (some ⟨g, 0, none⟩) n cap) n xs) (j : Nat) : w.frozen? ⟨g, j, none⟩ = false := World.ownsRow.frozenAt h j
theorem Row.set {w : World} {e : TypeId} {size g n cap : Nat} {xs : List Value} (h : Row w e size (.slice (some ⟨g, 0, none⟩) n cap) n xs) (j : Nat) (u : Value) : Row (w.setCell ⟨g, j, none⟩ u) e size (.slice (some ⟨g, 0, none⟩) n cap) n (xs.set j u) := (World.ownsRow.stored h j u).1
theorem Row.of_owns {w : World} {base : Nat} {e : TypeId} {size : Nat} {v : Value} {n : Nat} {xs : List Value} (h : w.ownsRow base e size v n xs) : Row w e size v n xs := by
  refine ⟨h.1, ?_⟩
  rcases h.2 with h2 | ⟨g, cap, cur, hv, hb, hr⟩
  · exact .inl h2
  · exact .inr ⟨g, cap, cur, hv, Nat.zero_le _, hr⟩
/-- A row that has just been laid, cells written out. -/
theorem Row.new (w : World) (cs : List Value) (e : TypeId) (n size : Nat) (hm : n ≤ maxLen) (hs : cs.length = n * size) : Row (w.alloc (.cells cs.toArray e)) e size (.slice (some ⟨w.heap.size, 0, none⟩) n n) n cs := by
  have h := World.ownsRow_lit (base := 0) (e := e) (size := size) w cs.toArray n (Nat.zero_le _) hm (by simpa using hs)
  exact h
end Go.Proofs.Ytdehkaknbmbieaa
namespace Go.Proofs.Ytdehkaknbmbieaa
set_option linter.unusedVariables false
set_option linter.unusedSimpArgs false
set_option linter.unusedSectionVars false
open Go.RowKit

/-- The later blocks of a row: those that it had, or new ones. -/
def Later (w : World) (v v' : Value) : Prop := v'.ownBlock = v.ownBlock ∨ ∃ g, v'.ownBlock = some g ∧ w.heap.size ≤ g
theorem Later.refl (w : World) (v : Value) : Later w v v := .inl rfl
theorem Later.trans {w w' : World} {u v x : Value} (h : Later w u v) (hs : w.heap.size ≤ w'.heap.size) (h' : Later w' v x) : Later w u x := by
  rcases h' with h' | ⟨g, h1, h2⟩
  · rcases h with h | ⟨g, h1, h2⟩
    · exact .inl (h'.trans h)
    · exact .inr ⟨g, h'.trans h1, h2⟩
  · exact .inr ⟨g, h1, Nat.le_trans hs h2⟩
theorem Later.ne {w : World} {v v' : Value} {b : Nat} (h : Later w v v') (hb : b < w.heap.size) (hn : v.ownBlock ≠ some b) : v'.ownBlock ≠ some b := by
  rcases h with h | ⟨g, h1, h2⟩
  · rw [h]; exact hn
  · rw [h1]; simp only [ne_eq, Option.some.injEq]; omega
/-- The same, of lists of blocks: each of the later ones was there, or is new. -/
def LaterFp (w : World) (fp fp' : List Nat) : Prop := ∀ k, k ∈ fp' → k ∈ fp ∨ w.heap.size ≤ k
theorem LaterFp.refl (w : World) (fp : List Nat) : LaterFp w fp fp := fun _ h => .inl h
theorem LaterFp.trans {w w' : World} {a b c : List Nat} (h : LaterFp w a b) (hs : w.heap.size ≤ w'.heap.size) (h' : LaterFp w' b c) : LaterFp w a c := fun k hk => by
  rcases h' k hk with h1 | h1
  · exact h k h1
  · exact .inr (Nat.le_trans hs h1)
theorem Later.fp {w : World} {v v' : Value} (h : Later w v v') : LaterFp w v.ownBlock.toList v'.ownBlock.toList := fun k hk => by
  rcases h with h | ⟨g, h1, h2⟩
  · rw [← h]; exact .inl hk
  · rw [h1] at hk; simp at hk; exact .inr (by omega)

section
variable {P : Program} (w : World)

theorem run_app (t ty e : TypeId) (i : TypeInfo) (z : Value) (size bytes : Nat) (ht : P.underlying t = some (.slice e)) (hi : P.info? e = some i) (hz : i.zero = some z)
    (hsize : i.size = size) (hby : i.bytes = bytes) (hzs : z.cells.size = size) (hsz : 0 < size)
    (v : Value) (n : Nat) (xs : List Value) (hown : Row w e size v n xs)
    (a : Addr) (m c : Nat) (news : List Value) (hl : news.length = m * size) (hnews : ∀ j u, news[j]? = some u → w.cell? (a.add j) = some u) (h1 : ∀ u ∈ news, u.oneCell' = true)
    (h63 : n + m ≤ maxLen) (hbytes : (n + m) * bytes ≤ 140737488355328) :
    ∃ v' w', (Builtin.append_ #[t, t] ty #[v, .slice (some a) m c]).run P w = .ok v' w' ∧ Row w' e size v' (n + m) (xs ++ news) ∧ Upd v.ownBlock.toList w w' ∧ Later w v v' := by
  obtain ⟨v', w', h2, h3, h4, _, h6⟩ := run_append_own_at (P := P) w 0 t ty e i z size bytes ht hi hz hsize hby hzs hsz v n xs hown a m c news hl hnews h1 h63 hbytes (Nat.zero_le _)
  refine ⟨v', w', h2, h3, (Upd.refl _ w).grown h4 (fun k hk => .inl (by simp [hk])), ?_⟩
  rcases h6 with h6 | h6
  · exact .inl h6
  · exact .inr ⟨_, h6, Nat.le_refl _⟩

theorem run_app_str (t u ty e : TypeId) (i : TypeInfo) (ht : P.underlying t = some (.slice e)) (hu : P.underlying u = some .string) (hi : P.info? e = some i) (hz : i.zero = some (.int .u8 0))
    (hsize : i.size = 1) (hby : i.bytes = 1) (v : Value) (n : Nat) (xs : List Value) (hown : Row w e 1 v n xs) (s : ByteArray)
    (h63 : n + s.size ≤ maxLen) (hbytes : n + s.size ≤ 140737488355328) :
    ∃ v' w', (Builtin.append_ #[t, u] ty #[v, .string s]).run P w = .ok v' w' ∧ Row w' e 1 v' (n + s.size) (xs ++ Lib.strCells s) ∧ Upd v.ownBlock.toList w w' ∧ Later w v v' := by
  obtain ⟨v', w', h2, h3, h4, _⟩ := Lib.run_append_own_string (P := P) w 0 t u ty e i ht hu hi hz hsize hby v n xs hown s h63 hbytes (Nat.zero_le _)
  refine ⟨v', w', h2, h3, (Upd.refl _ w).grown h4 (fun k hk => .inl (by simp [hk])), ?_⟩
  have hsmall : n + s.size ≤ 9223372036854775807 := by simp only [maxLen] at h63; omega
  rcases hown.2 with ⟨rfl, rfl⟩ | ⟨g, cap, cur, rfl, hbg, hg, hnc, hcm, hcs, htake⟩
  · have hx : xs = [] := List.eq_nil_of_length_eq_zero (by simpa using hown.1)
    subst hx
    obtain ⟨v2, w2, k2, k3, _, _⟩ := Lib.run_append_own_string (P := P) w w.heap.size t u ty e i ht hu hi hz hsize hby (.slice none 0 0) 0 [] (World.ownsRow_nil w _ _ _) s h63 hbytes (Nat.le_refl _)
    rw [h2] at k2
    cases k2
    cases hv : v'.ownBlock with
    | none => exact .inl (by rw [hv]; rfl)
    | some g => exact .inr ⟨g, hv, (World.ownsRow.lt k3 g hv).1⟩
  · by_cases hroom : n + s.size ≤ cap
    · have hr := Lib.run_append_room_string (P := P) w t u ty e i ht hu hi hsize g n cap cur hg s hroom (by omega)
      rw [h2] at hr
      cases hr
      exact .inl rfl
    · have holds : ∀ j u, xs[j]? = some u → w.cell? ((⟨g, 0, none⟩ : Addr).add j) = some u := World.ownsRow.cells hown (g := g) rfl
      have hxl : xs.length = n := by simpa using hown.1
      have hr := Lib.run_append_grow_string (P := P) w t u ty e i (.int .u8 0) ht hu hi hz ⟨g, 0, none⟩ n cap xs (by rw [hsize]; simpa using hxl) holds s (by omega) (by omega) (by rw [hby]; exact growslice_fits (by omega) (by omega))
      rw [h2] at hr
      cases hr
      exact .inr ⟨_, rfl, Nat.le_refl _⟩

theorem wp_app {o : Oper} {a : Act} {K : Act → World → Prop} {Q : Exit → Act → World → Prop} (s x : Operand) (t : TypeId)
    (ho : o.op = .call { callee := .builtin .append, args := #[s, x], argTypes := #[t, t] })
    (e : TypeId) (i : TypeInfo) (z : Value) (size bytes : Nat) (ht : P.underlying t = some (.slice e)) (hi : P.info? e = some i) (hz : i.zero = some z)
    (hsize : i.size = size) (hby : i.bytes = bytes) (hzs : z.cells.size = size) (hsz : 0 < size)
    (v : Value) (n : Nat) (xs : List Value) (hs : a.eval s = v) (hown : Row w e size v n xs)
    (ad : Addr) (m c : Nat) (news : List Value) (hx : a.eval x = .slice (some ad) m c) (hl : news.length = m * size) (hnews : ∀ j u, news[j]? = some u → w.cell? (ad.add j) = some u) (h1 : ∀ u ∈ news, u.oneCell' = true)
    (h63 : n + m ≤ maxLen) (hbytes : (n + m) * bytes ≤ 140737488355328)
    (h : ∀ v' w', Row w' e size v' (n + m) (xs ++ news) → Upd v.ownBlock.toList w w' → Later w v v' → K (a.put o.dst v') w') : o.wp P a w K Q := by
  obtain ⟨v', w', hr, h2, h3, h4⟩ := run_app (P := P) w t o.type e i z size bytes ht hi hz hsize hby hzs hsz v n xs hown ad m c news hl hnews h1 h63 hbytes
  unfold Oper.wp execOp
  simp only [ho, resolve, invoke, builtin, Sem.run_bind, Sem.run_pure, Result.andThen_ok, List.map_toArray, List.map_cons, List.map_nil, hs, hx, hr]
  exact h v' w' h2 h3 h4
theorem wp_app_str {o : Oper} {a : Act} {K : Act → World → Prop} {Q : Exit → Act → World → Prop} (sl x : Operand) (t u : TypeId)
    (ho : o.op = .call { callee := .builtin .append, args := #[sl, x], argTypes := #[t, u] })
    (e : TypeId) (i : TypeInfo) (ht : P.underlying t = some (.slice e)) (hu : P.underlying u = some .string) (hi : P.info? e = some i) (hz : i.zero = some (.int .u8 0))
    (hsize : i.size = 1) (hby : i.bytes = 1) (v : Value) (n : Nat) (xs : List Value) (hs : a.eval sl = v) (hown : Row w e 1 v n xs) (s : ByteArray) (hx : a.eval x = .string s)
    (h63 : n + s.size ≤ maxLen) (hbytes : n + s.size ≤ 140737488355328)
    (h : ∀ v' w', Row w' e 1 v' (n + s.size) (xs ++ Lib.strCells s) → Upd v.ownBlock.toList w w' → Later w v v' → K (a.put o.dst v') w') : o.wp P a w K Q := by
  obtain ⟨v', w', hr, h2, h3, h4⟩ := run_app_str (P := P) w t u o.type e i ht hu hi hz hsize hby v n xs hown s h63 hbytes
  unfold Oper.wp execOp
  simp only [ho, resolve, invoke, builtin, Sem.run_bind, Sem.run_pure, Result.andThen_ok, List.map_toArray, List.map_cons, List.map_nil, hs, hx, hr]
  exact h v' w' h2 h3 h4
theorem wpList_app {ops : Array Oper} {rest : List Oper} {o : Oper} {a : Act} {Q : Exit → Act → World → Prop} (hgd : o.guard = none) (s x : Operand) (t : TypeId)
    (ho : o.op = .call { callee := .builtin .append, args := #[s, x], argTypes := #[t, t] })
    (e : TypeId) (i : TypeInfo) (z : Value) (size bytes : Nat) (ht : P.underlying t = some (.slice e)) (hi : P.info? e = some i) (hz : i.zero = some z)
    (hsize : i.size = size) (hby : i.bytes = bytes) (hzs : z.cells.size = size) (hsz : 0 < size)
    (v : Value) (n : Nat) (xs : List Value) (hs : a.eval s = v) (hown : Row w e size v n xs)
    (ad : Addr) (m c : Nat) (news : List Value) (hx : a.eval x = .slice (some ad) m c) (hl : news.length = m * size) (hnews : ∀ j u, news[j]? = some u → w.cell? (ad.add j) = some u) (h1 : ∀ u ∈ news, u.oneCell' = true)
    (h63 : n + m ≤ maxLen) (hbytes : (n + m) * bytes ≤ 140737488355328)
    (h : ∀ v' w', Row w' e size v' (n + m) (xs ++ news) → Upd v.ownBlock.toList w w' → Later w v v' → wpList P ops Q rest (a.put o.dst v') w') : wpList P ops Q (o :: rest) a w :=
  wpList_plain hgd fun _ hK => wp_app w s x t ho e i z size bytes ht hi hz hsize hby hzs hsz v n xs hs hown ad m c news hx hl hnews h1 h63 hbytes fun v' w' h2 h3 h4 => hK _ _ (h v' w' h2 h3 h4)
theorem wpList_app_str {ops : Array Oper} {rest : List Oper} {o : Oper} {a : Act} {Q : Exit → Act → World → Prop} (hgd : o.guard = none) (sl x : Operand) (t u : TypeId)
    (ho : o.op = .call { callee := .builtin .append, args := #[sl, x], argTypes := #[t, u] })
    (e : TypeId) (i : TypeInfo) (ht : P.underlying t = some (.slice e)) (hu : P.underlying u = some .string) (hi : P.info? e = some i) (hz : i.zero = some (.int .u8 0))
    (hsize : i.size = 1) (hby : i.bytes = 1) (v : Value) (n : Nat) (xs : List Value) (hs : a.eval sl = v) (hown : Row w e 1 v n xs) (s : ByteArray) (hx : a.eval x = .string s)
    (h63 : n + s.size ≤ maxLen) (hbytes : n + s.size ≤ 140737488355328)
    (h : ∀ v' w', Row w' e 1 v' (n + s.size) (xs ++ Lib.strCells s) → Upd v.ownBlock.toList w w' → Later w v v' → wpList P ops Q rest (a.put o.dst v') w') : wpList P ops Q (o :: rest) a w :=
  wpList_plain hgd fun _ hK => wp_app_str w sl x t u ho e i ht hu hi hz hsize hby v n xs hs hown s hx h63 hbytes fun v' w' h2 h3 h4 => hK _ _ (h v' w' h2 h3 h4)
/-- At a step of a region that draws its order (for go_region_law, go_region_held3). -/
theorem step_app {ops : Array Oper} {o : Oper} {a : Act} {K : Act → World → Prop} {Q : Exit → Act → World → Prop} {E : Prop} (hgd : o.guard = none) (s x : Operand) (t : TypeId)
    (ho : o.op = .call { callee := .builtin .append, args := #[s, x], argTypes := #[t, t] })
    (e : TypeId) (i : TypeInfo) (z : Value) (size bytes : Nat) (ht : P.underlying t = some (.slice e)) (hi : P.info? e = some i) (hz : i.zero = some z)
    (hsize : i.size = size) (hby : i.bytes = bytes) (hzs : z.cells.size = size) (hsz : 0 < size)
    (v : Value) (n : Nat) (xs : List Value) (hs : a.eval s = v) (hown : Row w e size v n xs)
    (ad : Addr) (m c : Nat) (news : List Value) (hx : a.eval x = .slice (some ad) m c) (hl : news.length = m * size) (hnews : ∀ j u, news[j]? = some u → w.cell? (ad.add j) = some u) (h1 : ∀ u ∈ news, u.oneCell' = true)
    (h63 : n + m ≤ maxLen) (hbytes : (n + m) * bytes ≤ 140737488355328)
    (h : ∀ v' w', Row w' e size v' (n + m) (xs ++ news) → Upd v.ownBlock.toList w w' → Later w v v' → K (a.put o.dst v') w') :
    if Region.wanted o (yielded ops a.tmps) = true then Oper.wp P o a w K Q else E := by
  have hw : Region.wanted o (yielded ops a.tmps) = true := by simp [Region.wanted, hgd]
  rw [if_pos hw]
  exact wp_app w s x t ho e i z size bytes ht hi hz hsize hby hzs hsz v n xs hs hown ad m c news hx hl hnews h1 h63 hbytes h
theorem step_app_str {ops : Array Oper} {o : Oper} {a : Act} {K : Act → World → Prop} {Q : Exit → Act → World → Prop} {E : Prop} (hgd : o.guard = none) (sl x : Operand) (t u : TypeId)
    (ho : o.op = .call { callee := .builtin .append, args := #[sl, x], argTypes := #[t, u] })
    (e : TypeId) (i : TypeInfo) (ht : P.underlying t = some (.slice e)) (hu : P.underlying u = some .string) (hi : P.info? e = some i) (hz : i.zero = some (.int .u8 0))
    (hsize : i.size = 1) (hby : i.bytes = 1) (v : Value) (n : Nat) (xs : List Value) (hs : a.eval sl = v) (hown : Row w e 1 v n xs) (s : ByteArray) (hx : a.eval x = .string s)
    (h63 : n + s.size ≤ maxLen) (hbytes : n + s.size ≤ 140737488355328)
    (h : ∀ v' w', Row w' e 1 v' (n + s.size) (xs ++ Lib.strCells s) → Upd v.ownBlock.toList w w' → Later w v v' → K (a.put o.dst v') w') :
    if Region.wanted o (yielded ops a.tmps) = true then Oper.wp P o a w K Q else E := by
  have hw : Region.wanted o (yielded ops a.tmps) = true := by simp [Region.wanted, hgd]
  rw [if_pos hw]
  exact wp_app_str w sl x t u ho e i ht hu hi hz hsize hby v n xs hs hown s hx h63 hbytes h
end
end Go.Proofs.Ytdehkaknbmbieaa
namespace Go.Proofs.Ytdehkaknbmbieaa
set_option linter.unusedVariables false
set_option linter.unusedSimpArgs false
set_option linter.unusedSectionVars false
open Go.RowKit

/-- Numbers as the cells of bytes; as a string. -/
def u8s (l : List Nat) : List Value := l.map fun x : Nat => .int .u8 (x : Int)
def strOf (l : List Nat) : ByteArray := ⟨(l.map UInt8.ofNat).toArray⟩
def bytesOf (s : ByteArray) : List Nat := s.data.toList.map UInt8.toNat
theorem u8s_snoc (l : List Nat) (x : Nat) : u8s (l ++ [x]) = u8s l ++ [.int .u8 (x : Int)] := by simp [u8s]
theorem u8s_append (l r : List Nat) : u8s (l ++ r) = u8s l ++ u8s r := by simp [u8s]
theorem length_u8s (l : List Nat) : (u8s l).length = l.length := by simp [u8s]
theorem strCells_eq (s : ByteArray) : Lib.strCells s = u8s (bytesOf s) := by simp [Lib.strCells, u8s, bytesOf]
theorem bytesOf_lt (s : ByteArray) : ∀ x ∈ bytesOf s, x < 256 := by
  intro x hx
  simp only [bytesOf, List.mem_map] at hx
  obtain ⟨b, _, rfl⟩ := hx
  exact b.toNat_lt
theorem length_bytesOf (s : ByteArray) : (bytesOf s).length = s.size := by simp only [bytesOf, List.length_map, Array.length_toList]; rfl
theorem bytesOf_get (s : ByteArray) (i : Nat) (h : i < s.size) (h' : i < (bytesOf s).length) : (bytesOf s)[i] = s[i].toNat := by simp [bytesOf]; rfl
theorem bytesOf_u32 (s : ByteArray) (i : Nat) (h : i < s.size) (h' : i < (bytesOf s).length) : (s[i].toNat : Int) % 4294967296 = (((bytesOf s)[i] : Nat) : Int) := by
  rw [bytesOf_get s i h h']; have := s[i].toNat_lt; omega
theorem size_strOf (l : List Nat) : (strOf l).size = l.length := by simp [strOf, ByteArray.size]
theorem strOf_bytesOf (s : ByteArray) : strOf (bytesOf s) = s := by
  have h : (s.data.toList.map UInt8.toNat).map UInt8.ofNat = s.data.toList := by
    rw [List.map_map]
    exact (List.map_congr_left (fun x _ => by simp)).trans (List.map_id _)
  unfold strOf bytesOf
  rw [h]
theorem bytesOf_strOf (l : List Nat) (h : ∀ x ∈ l, x < 256) : bytesOf (strOf l) = l := by
  simp only [bytesOf, strOf, List.map_map]
  conv => rhs; rw [← List.map_id l]
  apply List.map_congr_left
  intro x hx
  have := h x hx
  simp only [Function.comp, id, UInt8.toNat_ofNat']
  omega
theorem strOf_append (l r : List Nat) : strOf l ++ strOf r = strOf (l ++ r) := by
  simp [strOf, ByteArray.mk_append_mk]
theorem bytesOf_append (a b : ByteArray) : bytesOf (a ++ b) = bytesOf a ++ bytesOf b := by
  simp [bytesOf, ByteArray.data_append]

section
variable {P : Program} (w : World)
theorem run_conv_row (src dst e : TypeId) (hs : P.underlying src = some (.slice e)) (he : P.underlying e = some (.int .u8)) (hd : P.underlying dst = some .string) {v : Value} {n : Nat} {l : List Nat}
    (h : Row w e 1 v n (u8s l)) : (convert src dst v).run P w = .ok (.string (strOf l)) w := by
  have hl : l.length = n := by have := h.len; rw [length_u8s] at this; omega
  rcases h.2 with ⟨rfl, rfl⟩ | ⟨g, cap, cur, rfl, _⟩
  · have : l = [] := List.eq_nil_of_length_eq_zero hl
    subst this
    exact run_convert_bytes_nil w src e hs he 0 0 dst hd
  · have hr := run_convert_bytes_arg w src e hs he g 0 n cap (l.map fun x : Nat => (x : Int)) (by simpa using hl) (fun i hi => by
      have hil : i < l.length := by omega
      rw [Nat.zero_add]
      refine Row.cell h i ?_
      simp [u8s, hil]) dst hd
    rw [hr]
    congr 2
    simp only [strOfNums, strOf, List.map_map]
    congr 2
end
end Go.Proofs.Ytdehkaknbmbieaa
namespace Go.Proofs.Ytdehkaknbmbieaa
set_option linter.unusedVariables false
set_option linter.unusedSimpArgs false
set_option linter.unusedSectionVars false
open Go.RowKit

/-- The blocks ks lie as they lay. -/
def Keep (ks : List Nat) (W W' : World) : Prop := W.heap.size ≤ W'.heap.size ∧ ∀ k ∈ ks, W'.heap[k]? = W.heap[k]?
theorem Keep.refl (ks : List Nat) (W : World) : Keep ks W W := ⟨Nat.le_refl _, fun _ _ => rfl⟩
theorem Keep.trans {ks : List Nat} {A B C : World} (h : Keep ks A B) (k : Keep ks B C) : Keep ks A C := ⟨Nat.le_trans h.1 k.1, fun i hi => (k.2 i hi).trans (h.2 i hi)⟩
theorem Keep.putObj {ks : List Nat} {W : World} {l : Nat} (o : Obj) (hl : ∀ k ∈ ks, k ≠ l) : Keep ks W (W.putObj l o) := ⟨by simp, fun k hk => World.putObj_heap_other (hl k hk)⟩
theorem Keep.of_upd {ks fp : List Nat} {W W' : World} (h : Upd fp W W') (hk : ∀ k ∈ ks, k < W.heap.size ∧ k ∉ fp) : Keep ks W W' := ⟨h.size, fun k hm => h.block k (hk k hm).1 (hk k hm).2⟩
/-- What the iterator does of its own: it writes the blocks fp, and lays new ones. -/
def Own2 (fp : List Nat) (A B : World) : Prop := Upd fp A B ∧ KeepsOthers A B
theorem Own2.refl (fp : List Nat) (A : World) : Own2 fp A A := ⟨Upd.refl _ _, KeepsOthers.refl _⟩
theorem Own2.trans {fp : List Nat} {A B C : World} (h : Own2 fp A B) (k : Own2 fp B C) : Own2 fp A C := ⟨h.1.then k.1, h.2.trans k.2⟩
theorem Blk.cellsOnly {w : World} {b : Nat} {cs : List Value} {t : TypeId} (h : Blk w b cs t) : ∀ o, w.heap[b]? = some o → o.isCells = true := fun o ho => by
  unfold Blk at h; rw [h] at ho; cases ho; rfl
theorem Row.cellsOnly {w : World} {e : TypeId} {size : Nat} {v : Value} {n : Nat} {xs : List Value} (h : Row w e size v n xs) : ∀ g, v.ownBlock = some g → ∀ o, w.heap[g]? = some o → o.isCells = true := fun g hg o ho => by
  rcases h.2 with ⟨rfl, rfl⟩ | ⟨g', cap, cur, rfl, hb, hh, _⟩
  · simp [Value.ownBlock] at hg
  · simp [Value.ownBlock] at hg; subst hg; rw [hh] at ho; cases ho; rfl
theorem Upd.others {fp : List Nat} {w w' : World} (h : Upd fp w w') (hc : ∀ k, k ∈ fp → ∀ o, w.heap[k]? = some o → o.isCells = true) : KeepsOthers w w' :=
  ⟨h.size, fun k o ho hn => by
    by_cases hm : k ∈ fp
    · have := hc k hm o ho; rw [this] at hn; cases hn
    · exact (h.block k (Array.getElem?_eq_some_iff.1 ho).1 hm).trans ho⟩
theorem own2_of {fp fq : List Nat} {w w' : World} (h : Upd fq w w') (hs : ∀ k ∈ fq, k ∈ fp) (hc : ∀ k, k ∈ fq → ∀ o, w.heap[k]? = some o → o.isCells = true) : Own2 fp w w' := ⟨h.mono fun k hk => .inl (hs k hk), h.others hc⟩
theorem upd_ownF {β : Type} (B : Nat) (fp : List Nat) (w0 : World) (hB : w0.heap.size ≤ B) : OwnFrom B (fun (_ : β) W => Upd fp w0 W) := fun _ W W' row hs hg hr =>
  hs.grown hg (fun k hk => .inr (by have := (hr k hk).1; omega))
theorem blk_ownF {β : Type} (B b : Nat) (f : β → List Value) (t : TypeId) : OwnFrom B (fun s W => Blk W b (f s) t) := fun s W W' row hs hg hr =>
  Blk.grown hs hg (fun e => by obtain ⟨_, o, ho, hc⟩ := hr b e; rw [Blk.cellsOnly hs o ho] at hc; cases hc)
theorem Row.ownF {w w' : World} {e : TypeId} {size : Nat} {v : Value} {n : Nat} {xs : List Value} {row : Option Nat} {B : Nat} (h : Row w e size v n xs) (hg : w.grownBy w' row) (hr : ∀ r, row = some r → B ≤ r ∧ ∃ o : Obj, w.heap[r]? = some o ∧ o.isCells = false) : Row w' e size v n xs :=
  h.upd ((Upd.refl row.toList w).grown hg (fun k hk => .inl (by simp [hk]))) (fun k hk hm => by
    simp at hm; obtain ⟨_, o, ho, hc⟩ := hr k hm; rw [h.cellsOnly k hk o ho] at hc; cases hc)
def SeqW {α : Type} (P : Program) (g : Nat) (lb : Array Value) (encs : α → Array Value) (fp ks : List Nat) (S Sp : List α → Prop) (N : Nat) (w : World) : Prop :=
  ∀ (l : Nat) (J Jx : List α → World → Prop) (W : World), Upd [] w W → W.heap.size = w.heap.size + 2 → (∀ s A B, J s A → Own2 fp A B → J s B) → (∀ s A B, Jx s A → Own2 fp A B → Jx s B) →
    (∀ pre x W1, J pre W1 → pre.length < N → (∀ k ∈ fp, k < W1.heap.size) → YieldAt Fence.wide 7 P l (encs x) W1 fun e W' => (e = .returned (.bool true) ∧ J (pre ++ [x]) W' ∧ Keep ks W1 W') ∨ (e = .returned (.bool false) ∧ Jx (pre ++ [x]) W')) → J [] W →
    CallsIn Fence.wide 8 P g (#[.func (.yield l) #[] #[]] ++ lb) W fun e W' => (∃ v, e = .returned v) ∧ ((∃ xs, S xs ∧ J xs W') ∨ (∃ pre, Sp pre ∧ Jx pre W'))

section
variable {α : Type} {P : Program} {g : Operand} {ps : Array Tmp} {assign body : Code} {Q : Exit → Act → World → Prop} {a : Act} {w : World}
theorem loopW {gf : Nat} {lb : Array Value} (hg : a.eval g = .func (.func gf) #[] lb) (eg : ∀ args w, (callFunc gf args).run P w = .ok (.enter gf args) w)
    {encs : α → Array Value} {fp ks : List Nat} {S Sp : List α → Prop} {N : Nat} (hseq : SeqW P gf lb encs fp ks S Sp N w) (hks : ∀ k ∈ ks, k ≠ w.heap.size + 1) (hps : ∀ x, (encs x).size = ps.size)
    (I : List α → World → Prop) (Ix : Code → List α → World → Prop) (Mid : List α → α → Act → World → Prop)
    (hI : OwnFrom w.heap.size I) (hIx : ∀ c, OwnFrom w.heap.size (Ix c)) (hMid : ∀ pre x a', OwnFrom w.heap.size (fun (_ : Unit) W => Mid pre x a' W))
    (hIw : ∀ s A B, I s A → Own2 fp A B → I s B) (hIxw : ∀ c s A B, Ix c s A → Own2 fp A B → Ix c s B) (h0 : I [] w)
    (hassign : ∀ (l : Nat) (pre : List α) (x : α) (W : World) (K : Act → World → Prop), I pre W → w.heap.size ≤ W.heap.size → (∀ k ∈ fp, k < W.heap.size) → (∀ a' W', KeepsFrom w.heap.size W W' → Keep ks W W' → Mid pre x a' W' → K a' W') →
      assign.wpIn (Fence.wide.inRound l) 7 P (Exit.then K (fun _ _ _ => False)) { tmps := (ps.zip (encs x)).foldl (fun t (p, v) => t.setIfInBounds p v) a.tmps, defers := [] } W)
    (hbody : ∀ (l : Nat) (pre : List α) (x : α) (a' : Act) (W : World), w.heap.size ≤ W.heap.size → Mid pre x a' W → pre.length < N →
      body.wpIn (Fence.wide.inRound l) 7 P (ownPostG w.heap.size (Keep ks) I Ix (pre ++ [x]) W) a' W)
    (hdone : ∀ (D : Nat) (xs : List α) (W : World), w.heap.size ≤ D → S xs → I xs W → W.heap[D]? = some (.deferred (some [])) → Q .normal { a with defers := { target := .collected D, args := #[] } :: a.defers } W)
    (hstop : ∀ (D : Nat) (c : Code) (pre : List α) (W : World), w.heap.size ≤ D → Sp pre → Ix c pre W → W.heap[D]? = some (.deferred (some [])) → c.wpIn Fence.wide 9 P Q { a with defers := { target := .collected D, args := #[] } :: a.defers } W) :
    (Code.rangeFunc g ps assign body).wpIn Fence.wide 9 P Q a w := by
  refine wpIn_rangeFunc fun fn hfn => ?_
  -- the record of this loop, by its state and its pending jump
  let rc : LoopState → Option Code → Loop := fun s p => { state := s, pending := p, fn, tmps := a.tmps, params := ps, assign, body, defers := w.heap.size }
  let wD := w.alloc (.deferred (some []))
  let wL := wD.alloc (.loop (rc .ready none))
  have zD : wD.heap.size = w.heap.size + 1 := by simp [wD]
  have recL : wL.heap[w.heap.size + 1]? = some (.loop (rc .ready none)) := by
    have := World.alloc_heap_new wD (.loop (rc .ready none)); rwa [zD] at this
  have defL : wL.heap[w.heap.size]? = some (.deferred (some [])) := (Below.heap_alloc wD _ _ (by omega)).trans (World.alloc_heap_new w _)
  have iL : I [] wL := hI.alloc _ (hI.alloc _ h0)
  have uL : Upd [] w wL := ((Upd.refl [] w).alloc _).alloc _
  refine ⟨w.heap.size + 1, [{ target := .collected w.heap.size, args := #[] }], wL, { target := .fn (.func gf) lb, args := #[.func (.yield (w.heap.size + 1)) #[] #[]] }, wL, gf, #[.func (.yield (w.heap.size + 1)) #[] #[]] ++ lb, wL, run_enterLoop_outer _ _ _ _ _, by simp only [resolve, hg]; simp [go_sem], fun _ _ => trivial, by simp [invoke, go_sem, eg], (fun _ => by omega), ?_⟩
  have kept : ∀ {A B : World} {k : Nat} {o : Obj}, Own2 fp A B → A.heap[k]? = some o → o.isCells = false → B.heap[k]? = some o := fun hAB h hc => hAB.2.same _ _ h hc
  refine (hseq (w.heap.size + 1)
    (fun s W => I s W ∧ W.heap[w.heap.size + 1]? = some (.loop (rc .ready none)) ∧ W.heap[w.heap.size]? = some (.deferred (some [])))
    (fun s W => ∃ c, Ix c s W ∧ W.heap[w.heap.size + 1]? = some (.loop (rc .done (some c))) ∧ W.heap[w.heap.size]? = some (.deferred (some [])))
    wL uL (by simp [wL, zD]) (fun s A B h hAB => ⟨hIw s A B h.1 hAB, kept hAB h.2.1 rfl, kept hAB h.2.2 rfl⟩)
    (fun s A B h hAB => by obtain ⟨c, h1, h2, h3⟩ := h; exact ⟨c, hIxw c s A B h1 hAB, kept hAB h2 rfl, kept hAB h3 rfl⟩) ?round ⟨iL, recL, defL⟩).mono ?behind
  case round =>
    rintro pre x W ⟨hi, hr, hd⟩ hlen hfp
    have hsz : w.heap.size ≤ W.heap.size := by have := (Array.getElem?_eq_some_iff.1 hr).1; omega
    refine ⟨fn, _, assign, body, run_yield (r := rc .ready none) hr (hps x), roundIn_of_wpIn hfn (hassign _ pre x W _ hi hsz hfp fun a' Wa hkf hkp hmid => ?_)⟩
    have hr1 := hkf.same _ _ (by omega) hr rfl
    have hd1 := hkf.same _ _ (Nat.le_refl _) hd rfl
    have hl1 : w.heap.size + 1 < Wa.heap.size := (Array.getElem?_eq_some_iff.1 hr1).1
    refine ⟨_, run_beginRound hr1 rfl, ?_⟩
    let Wb := Wa.putObj (w.heap.size + 1) (.loop (rc .busy none))
    have hr2 : Wb.heap[w.heap.size + 1]? = some (.loop (rc .busy none)) := World.putObj_heap_same hl1
    have hd2 : Wb.heap[w.heap.size]? = some (.deferred (some [])) := (World.putObj_heap_other (by omega)).trans hd1
    have hkb : Keep ks W Wb := hkp.trans (Keep.putObj _ fun k hk => hks k hk)
    have hmb : Mid pre x a' Wb := (hMid pre x a').putObj (s := ()) _ hmid (by omega) hr1 rfl
    refine wpIn_mono (hbody _ pre x a' Wb (by show w.heap.size ≤ (Wa.putObj _ _).heap.size; simp; omega) hmb hlen) fun e a3 W3 hp => ?_
    -- the round's end: the record takes the jump up
    have fin : ∀ (j : Option Code), KeepsFrom w.heap.size Wb W3 →
        (Instr.endRound (w.heap.size + 1) j).run P W3 = .ok (.bool j.isNone) (W3.putObj (w.heap.size + 1) (.loop (rc (if j.isNone then .ready else .done) j))) ∧ W3.heap[w.heap.size + 1]? = some (.loop (rc .busy none)) ∧
        (W3.putObj (w.heap.size + 1) (.loop (rc (if j.isNone then .ready else .done) j))).heap[w.heap.size + 1]? = some (.loop (rc (if j.isNone then .ready else .done) j)) ∧
        (W3.putObj (w.heap.size + 1) (.loop (rc (if j.isNone then .ready else .done) j))).heap[w.heap.size]? = some (.deferred (some [])) := fun j hk => by
      have hr3 := hk.same _ _ (by omega) hr2 rfl
      exact ⟨run_endRound j hr3, hr3, World.putObj_heap_same (Array.getElem?_eq_some_iff.1 hr3).1, (World.putObj_heap_other (by omega)).trans (hk.same _ _ (Nat.le_refl _) hd2 rfl)⟩
    have out : ∀ (c : Code), KeepsFrom w.heap.size Wb W3 ∧ Ix c (pre ++ [x]) W3 → ∃ v W4, (Instr.endRound (w.heap.size + 1) (some c)).run P W3 = .ok v W4 ∧
        ((Ending.returned v = .returned (.bool true) ∧ (I (pre ++ [x]) W4 ∧ W4.heap[w.heap.size + 1]? = some (.loop (rc .ready none)) ∧ W4.heap[w.heap.size]? = some (.deferred (some []))) ∧ Keep ks W W4) ∨
         (Ending.returned v = .returned (.bool false) ∧ ∃ c, Ix c (pre ++ [x]) W4 ∧ W4.heap[w.heap.size + 1]? = some (.loop (rc .done (some c))) ∧ W4.heap[w.heap.size]? = some (.deferred (some [])))) := fun c h => by
      obtain ⟨hrun, hr3, hr4, hd4⟩ := fin (some c) h.1
      exact ⟨_, _, hrun, .inr ⟨rfl, c, (hIx c).putObj _ h.2 (by omega) hr3 rfl, hr4, hd4⟩⟩
    cases e with
    | normal =>
      obtain ⟨hrun, hr3, hr4, hd4⟩ := fin none hp.1
      exact ⟨_, _, hrun, .inl ⟨rfl, ⟨hI.putObj _ hp.2.2 (by omega) hr3 rfl, hr4, hd4⟩, (hkb.trans hp.2.1).trans (Keep.putObj _ fun k hk => hks k hk)⟩⟩
    | ret => exact out .ret hp
    | exit id => exact out (.exit id) hp
    | goto t => exact out (.goto t) hp
    | panic ch => exact hp.elim
    | outgrown => exact hp.elim
  case behind =>
    rintro e W2 ⟨⟨v, rfl⟩, (⟨xs, hS, hi, hr, hd⟩ | ⟨pre, hSp, c, hi, hr, hd⟩)⟩
    · exact ⟨none, _, run_endLoop (r := rc .ready none) hr (by simp [rc]), hdone _ xs _ (Nat.le_refl _) hS (hI.putObj _ hi (by omega) hr rfl) ((World.putObj_heap_other (by omega)).trans hd)⟩
    · exact ⟨some c, _, run_endLoop (r := rc .done (some c)) hr (by simp [rc]), hstop _ c pre _ (Nat.le_refl _) hSp ((hIx c).putObj _ hi (by omega) hr rfl) ((World.putObj_heap_other (by omega)).trans hd)⟩
/-- The same, where the activation behind the assignment is known. -/
theorem loopWA {gf : Nat} {lb : Array Value} (hg : a.eval g = .func (.func gf) #[] lb) (eg : ∀ args w, (callFunc gf args).run P w = .ok (.enter gf args) w)
    {encs : α → Array Value} {fp ks : List Nat} {S Sp : List α → Prop} {N : Nat} (hseq : SeqW P gf lb encs fp ks S Sp N w) (hks : ∀ k ∈ ks, k ≠ w.heap.size + 1) (hps : ∀ x, (encs x).size = ps.size)
    (I : List α → World → Prop) (Ix : Code → List α → World → Prop) (act : α → Act)
    (hI : OwnFrom w.heap.size I) (hIx : ∀ c, OwnFrom w.heap.size (Ix c)) (hIw : ∀ s A B, I s A → Own2 fp A B → I s B) (hIxw : ∀ c s A B, Ix c s A → Own2 fp A B → Ix c s B) (h0 : I [] w)
    (hassign : ∀ (l : Nat) (x : α) (W : World) (K : Act → World → Prop), K (act x) W →
      assign.wpIn (Fence.wide.inRound l) 7 P (Exit.then K (fun _ _ _ => False)) { tmps := (ps.zip (encs x)).foldl (fun t (p, v) => t.setIfInBounds p v) a.tmps, defers := [] } W)
    (hbody : ∀ (l : Nat) (pre : List α) (x : α) (W : World), w.heap.size ≤ W.heap.size → (∀ k ∈ fp, k < W.heap.size) → I pre W → pre.length < N →
      body.wpIn (Fence.wide.inRound l) 7 P (ownPostG w.heap.size (Keep ks) I Ix (pre ++ [x]) W) (act x) W)
    (hdone : ∀ (D : Nat) (xs : List α) (W : World), w.heap.size ≤ D → S xs → I xs W → W.heap[D]? = some (.deferred (some [])) → Q .normal { a with defers := { target := .collected D, args := #[] } :: a.defers } W)
    (hstop : ∀ (D : Nat) (c : Code) (pre : List α) (W : World), w.heap.size ≤ D → Sp pre → Ix c pre W → W.heap[D]? = some (.deferred (some [])) → c.wpIn Fence.wide 9 P Q { a with defers := { target := .collected D, args := #[] } :: a.defers } W) :
    (Code.rangeFunc g ps assign body).wpIn Fence.wide 9 P Q a w :=
  loopW hg eg hseq hks hps I Ix (fun pre x a' W => (I pre W ∧ ∀ k ∈ fp, k < W.heap.size) ∧ a' = act x) hI hIx
    (fun pre x a' _ A B row hs hg hr => ⟨⟨hI pre A B row hs.1.1 hg hr, fun k hk => Nat.lt_of_lt_of_le (hs.1.2 k hk) hg.size⟩, hs.2⟩) hIw hIxw h0
    (fun l pre x W K hi hsz hfp hK => hassign l x W K (hK _ _ (KeepsFrom.refl _ _) (Keep.refl _ _) ⟨⟨hi, hfp⟩, rfl⟩))
    (fun l pre x a' W hsz hm hlt => by obtain ⟨⟨h1, h2⟩, rfl⟩ := hm; exact hbody l pre x W hsz h2 h1 hlt) hdone hstop
end
end Go.Proofs.Ytdehkaknbmbieaa

namespace Go.Proofs.Ytdehkaknbmbieaa
set_option linter.unusedVariables false
set_option linter.unusedSimpArgs false
set_option linter.unusedSectionVars false
open Go.RowKit

section
variable {P : Program}
theorem wpList_loadBlk {ops : Array Oper} {rest : List Oper} {o : Oper} {a : Act} {w : World} {Q : Exit → Act → World → Prop} (hgd : o.guard = none) (ty : TypeId) (x : Operand) (ho : o.op = .load ty x)
    (b : Nat) (hx : a.eval x = .pointer (some ⟨b, 0, none⟩)) (t : TypeId) (cs : List Value) (hB : Blk w b cs t) (d : TypeDesc)
    (hu : P.underlying ty = some d) (hd : (match d with | .struct _ | .array _ _ => true | _ => false) = true) (hi : (P.info? ty).map (·.size) = some cs.length)
    (h : wpList P ops Q rest (a.put o.dst (.agg cs.toArray)) w) : wpList P ops Q (o :: rest) a w :=
  wpList_load_row hgd ty x ho b hx t cs.toArray (0, 0) d hB hu hd (by simpa using hi) h

theorem run_storeBlk (w : World) (ty t : TypeId) (b : Nat) (cs ds : List Value) (hB : Blk w b cs t) (hi : (P.info? ty).map (·.size) = some cs.length) (hl : ds.length = cs.length) (h1 : ∀ v ∈ ds, v.oneCell' = true) :
    ∃ w', (storeVar ty ⟨b, 0, none⟩ (.agg ds.toArray)).run P w = .ok () w' ∧ Blk w' b ds t ∧ Upd [b] w w' := by
  have hst := run_storeCells_at P b 0 t ds 0 cs.toArray w hB (by simp; omega) h1
  have e : (((cs.toArray.toList.take (0 + 0)) ++ ds ++ cs.toArray.toList.drop (0 + 0 + ds.length)).toArray) = ds.toArray := by
    simp [hl]
  obtain ⟨i, hi1, hi2⟩ := Option.map_eq_some_iff.1 hi
  refine ⟨w.setRow b ds.toArray, ?_, ?_, ?_⟩
  · rw [e] at hst
    simp only [storeVar, Value.cells, sizeOf, typeInfo, Sem.run_bind, Sem.run_pure]
    simp [hi1, hi2, hl]
    simpa using hst
  · exact setRow_heap w b cs.toArray _ t _ hB
  · exact ⟨rfl, rfl, rfl, by simp, fun k _ hk => setRow_other w b k _ (fun e => hk (by simp [e]))⟩

theorem wpList_storeBlk {ops : Array Oper} {rest : List Oper} {o : Oper} {a : Act} {w : World} {Q : Exit → Act → World → Prop} (hgd : o.guard = none) (ty : TypeId) (x y : Operand) (ho : o.op = .store ty x y)
    (b : Nat) (hx : a.eval x = .pointer (some ⟨b, 0, none⟩)) (ds : List Value) (hy : a.eval y = .agg ds.toArray) (t : TypeId) (cs : List Value) (hB : Blk w b cs t)
    (hi : (P.info? ty).map (·.size) = some cs.length) (hl : ds.length = cs.length) (h1 : ∀ v ∈ ds, v.oneCell' = true)
    (h : ∀ w', Blk w' b ds t → Upd [b] w w' → wpList P ops Q rest (a.put o.dst undef) w') : wpList P ops Q (o :: rest) a w := by
  refine wpList_plain hgd fun K hK => ?_
  obtain ⟨w', hr, h2, h3⟩ := run_storeBlk (P := P) w ty t b cs ds hB hi hl h1
  unfold Oper.wp execOp
  simp only [ho, hx, hy, Instr.storeAt, Instr.sureAddr, Sem.run_bind, Sem.run_pure, Result.andThen_ok, hr, Oper.upon]
  exact hK _ _ (h w' h2 h3)

/-- A store into the head of a block: an array at a struct's begin. -/
theorem run_storePre (w : World) (ty t : TypeId) (b : Nat) (cs ds rs : List Value) (hB : Blk w b (cs ++ rs) t) (hi : (P.info? ty).map (·.size) = some cs.length) (hl : ds.length = cs.length) (h1 : ∀ v ∈ ds, v.oneCell' = true) :
    ∃ w', (storeVar ty ⟨b, 0, none⟩ (.agg ds.toArray)).run P w = .ok () w' ∧ Blk w' b (ds ++ rs) t ∧ Upd [b] w w' := by
  have hst := run_storeCells_at P b 0 t ds 0 (cs ++ rs).toArray w hB (by simp; omega) h1
  have e : ((((cs ++ rs).toArray.toList.take (0 + 0)) ++ ds ++ (cs ++ rs).toArray.toList.drop (0 + 0 + ds.length)).toArray) = (ds ++ rs).toArray := by
    simp [hl]
  obtain ⟨i, hi1, hi2⟩ := Option.map_eq_some_iff.1 hi
  refine ⟨w.setRow b (ds ++ rs).toArray, ?_, ?_, ?_⟩
  · rw [e] at hst
    simp only [storeVar, Value.cells, sizeOf, typeInfo, Sem.run_bind, Sem.run_pure]
    simp [hi1, hi2, hl]
    simpa using hst
  · exact setRow_heap w b (cs ++ rs).toArray _ t _ hB
  · exact ⟨rfl, rfl, rfl, by simp, fun k _ hk => setRow_other w b k _ (fun e => hk (by simp [e]))⟩
theorem wpList_storePre {ops : Array Oper} {rest : List Oper} {o : Oper} {a : Act} {w : World} {Q : Exit → Act → World → Prop} (hgd : o.guard = none) (ty : TypeId) (x y : Operand) (ho : o.op = .store ty x y)
    (b : Nat) (hx : a.eval x = .pointer (some ⟨b, 0, none⟩)) (ds : List Value) (hy : a.eval y = .agg ds.toArray) (t : TypeId) (cs rs : List Value) (hB : Blk w b (cs ++ rs) t)
    (hi : (P.info? ty).map (·.size) = some cs.length) (hl : ds.length = cs.length) (h1 : ∀ v ∈ ds, v.oneCell' = true)
    (h : ∀ w', Blk w' b (ds ++ rs) t → Upd [b] w w' → wpList P ops Q rest (a.put o.dst undef) w') : wpList P ops Q (o :: rest) a w := by
  refine wpList_plain hgd fun K hK => ?_
  obtain ⟨w', hr, h2, h3⟩ := run_storePre (P := P) w ty t b cs ds rs hB hi hl h1
  unfold Oper.wp execOp
  simp only [ho, hx, hy, Instr.storeAt, Instr.sureAddr, Sem.run_bind, Sem.run_pure, Result.andThen_ok, hr, Oper.upon]
  exact hK _ _ (h w' h2 h3)

/-- An element of an array's value, a number. -/
theorem run_indexAgg (T e : TypeId) (n : Nat) (hT : P.underlying T = some (.array n e)) (ik : IntKind) (he : P.underlying e = some (.int ik))
    (hs : (P.info? e).map (·.size) = some 1) (cs : List Value) (hl : cs.length = n) (k : IntKind) (i : Nat) (hi : i < n) (w : World) :
    (Instr.index T (.agg cs.toArray) (.int k (i : Int))).run P w = .ok (cs.getD i undef) w := by
  obtain ⟨f, hf1, hf2⟩ := Option.map_eq_some_iff.1 hs
  simp [Instr.index, asIntOf, run_underlying hT, sizeOf, typeInfo, hf1, hf2, hi, part, isAgg, run_underlying he]
  simp [show i < cs.length by omega]

/-- make([]T, n). -/
theorem wpList_mk (w : World) {ops : Array Oper} {rest : List Oper} {o : Oper} {a : Act} {Q : Exit → Act → World → Prop}
    (hg : o.guard = none) (l c : Operand) (t : TypeId) (hop : o.op = Op.makeSlice t l c)
    (e : TypeId) (i : TypeInfo) (z : Value) (h1 : P.underlying t = some (.slice e)) (h2 : P.info? e = some i) (h3 : i.zero = some z) (h4 : i.size = 1) (hz : z.cells = #[z])
    (kl kc : IntKind) (L C : Int) (n : Nat) (hl : a.eval l = .int kl L) (hc : a.eval c = .int kc C) (hL : L = (n : Int)) (hC : C = (n : Int)) (b2 : i.bytes * n ≤ 281474976710656) (b3 : n ≤ maxLen)
    (hK : ∀ w', Row w' e 1 (.slice (some ⟨w.heap.size, 0, none⟩) n n) n (List.replicate n z) → Upd [] w w' → w.heap.size < w'.heap.size → wpList P ops Q rest (a.put o.dst (.slice (some ⟨w.heap.size, 0, none⟩) n n)) w') :
    wpList P ops Q (o :: rest) a w := by
  refine wpList_make_full w hg l c t hop 0 e i z 1 h1 h2 h3 h4 kl kc L C n hl hc hL hC b2 b3 (Nat.zero_le _) ?_
  intro w' r1 r2
  rw [Nat.mul_one, hz, toList_madeCells_one] at r1
  refine hK w' r1 ((Upd.refl _ w).grown r2 (by simp)) ?_
  exact Row.lt r1 _ rfl
end
end Go.Proofs.Ytdehkaknbmbieaa

namespace Go.Proofs.Ytdehkaknbmbieaa
set_option linter.unusedVariables false
set_option linter.unusedSimpArgs false
set_option linter.unusedSectionVars false
open Go.RowKit

theorem ofInt_nat (n a : Nat) (h : a < 2 ^ n) : (BitVec.ofInt n (a : Int)).toNat = a := by
  rw [BitVec.ofInt_natCast, BitVec.toNat_ofNat]; exact Nat.mod_eq_of_lt h
theorem wrap_u32_nat (a : Nat) (h : a < 4294967296) : IntKind.u32.wrap (a : Int) = (a : Int) := by rw [IntKind.wrap_u32]; omega
theorem wrap_u8_nat (a : Nat) (h : a < 256) : IntKind.u8.wrap (a : Int) = (a : Int) := by rw [IntKind.wrap_u8]; omega
theorem and_u32 (a b : Nat) (ha : a < 4294967296) (hb : b < 4294967296) : bits .and .u32 (a : Int) (b : Int) = ((a &&& b : Nat) : Int) := by
  show IntKind.u32.wrap ((BitVec.ofInt 32 (a : Int) &&& BitVec.ofInt 32 (b : Int)).toNat : Int) = _
  rw [BitVec.toNat_and, ofInt_nat 32 a ha, ofInt_nat 32 b hb]
  exact wrap_u32_nat _ (Nat.and_lt_two_pow a (n := 32) hb)
theorem xor_u32 (a b : Nat) (ha : a < 4294967296) (hb : b < 4294967296) : bits .xor .u32 (a : Int) (b : Int) = ((a ^^^ b : Nat) : Int) := by
  show IntKind.u32.wrap ((BitVec.ofInt 32 (a : Int) ^^^ BitVec.ofInt 32 (b : Int)).toNat : Int) = _
  rw [BitVec.toNat_xor, ofInt_nat 32 a ha, ofInt_nat 32 b hb]
  exact wrap_u32_nat _ (Nat.xor_lt_two_pow (n := 32) ha hb)
theorem or_u32 (a b : Nat) (ha : a < 4294967296) (hb : b < 4294967296) : bits .or .u32 (a : Int) (b : Int) = ((a ||| b : Nat) : Int) := by
  show IntKind.u32.wrap ((BitVec.ofInt 32 (a : Int) ||| BitVec.ofInt 32 (b : Int)).toNat : Int) = _
  rw [BitVec.toNat_or, ofInt_nat 32 a ha, ofInt_nat 32 b hb]
  exact wrap_u32_nat _ (Nat.or_lt_two_pow (n := 32) ha hb)
theorem xor_u8 (a b : Nat) (ha : a < 256) (hb : b < 256) : bits .xor .u8 (a : Int) (b : Int) = ((a ^^^ b : Nat) : Int) := by
  show IntKind.u8.wrap ((BitVec.ofInt 8 (a : Int) ^^^ BitVec.ofInt 8 (b : Int)).toNat : Int) = _
  rw [BitVec.toNat_xor, ofInt_nat 8 a ha, ofInt_nat 8 b hb]
  exact wrap_u8_nat _ (Nat.xor_lt_two_pow (n := 8) ha hb)
theorem mask_u32 (t f k : Nat) (ht : t < 4294967296) (hk : k ≤ 7) : bits .and .u32 ((t : Int) / 2 ^ f) ((2 ^ k - 1) % 4294967296) = ((t / 2 ^ f % 2 ^ k : Nat) : Int) := by
  have h1 : (1 : Nat) ≤ 2 ^ k := Nat.one_le_two_pow
  have h2 : (2 : Nat) ^ k ≤ 2 ^ 7 := Nat.pow_le_pow_right (by omega) hk
  have e1 : ((t : Int) / 2 ^ f) = ((t / 2 ^ f : Nat) : Int) := by simp
  have e2 : (((2 : Int) ^ k - 1) % 4294967296) = ((2 ^ k - 1 : Nat) : Int) := by
    have : ((2 : Int) ^ k) = ((2 ^ k : Nat) : Int) := by simp
    rw [this]; omega
  rw [e1, e2, and_u32 _ _ (Nat.lt_of_le_of_lt (Nat.div_le_self _ _) ht) (by omega), Nat.and_two_pow_sub_one_eq_mod]
theorem wrap64_nat (a : Nat) (h : a < 9223372036854775808) : wrap64 (a : Int) = (a : Int) := by unfold wrap64; omega
end Go.Proofs.Ytdehkaknbmbieaa
namespace Go.Proofs.Ytdehkaknbmbieaa
set_option linter.unusedVariables false
set_option linter.unusedSimpArgs false
set_option linter.unusedSectionVars false


theorem heldTake {P : Program} {md : Region.Mode} {ops : Array Oper} {Q : Exit → Act → World → Prop} {S : World → Prop} {i : Nat} {oi : Oper} {d : Option Tmp} {v : Value} {fuel : Nat} {listed : Array Bool} {a : Act} {w : World} (hi : ops[i]? = some oi) (hd : oi.dst = d)
    (hs : Region.noSelect ops = true) (hf : Region.free md ops listed i = true) (hr : (Region.ready md ops listed).contains i = true)
    (hQ : ∀ c a w, Q (.panic c) (a.put d v) w → Q (.panic c) a w) (hw : Region.wanted oi (yielded ops a.tmps) = true) (hy : ∀ w, S w → (execOp a.eval oi).run P w = .ok (.value v) w) (hS : S w)
    (h : wpAnyH P md ops Q S fuel (listed.setIfInBounds i true) (a.put d v) w) : wpAnyH P md ops Q S (fuel + 1) listed a w := by
  subst hd
  exact wpAnyH_take hi hs hf hr hQ (Or.inl ⟨hw, hy⟩) hS h
theorem heldSkip {P : Program} {md : Region.Mode} {ops : Array Oper} {Q : Exit → Act → World → Prop} {S : World → Prop} {i : Nat} {oi : Oper} {d : Option Tmp} {fuel : Nat} {listed : Array Bool} {a : Act} {w : World} (hi : ops[i]? = some oi) (hd : oi.dst = d)
    (hs : Region.noSelect ops = true) (hf : Region.free md ops listed i = true) (hr : (Region.ready md ops listed).contains i = true)
    (hQ : ∀ c a w, Q (.panic c) (a.put d undef) w → Q (.panic c) a w) (hw : Region.wanted oi (yielded ops a.tmps) = false) (hS : S w)
    (h : wpAnyH P md ops Q S fuel (listed.setIfInBounds i true) (a.put d undef) w) : wpAnyH P md ops Q S (fuel + 1) listed a w := by
  subst hd
  exact wpAnyH_take hi hs hf hr hQ (Or.inr ⟨hw, rfl⟩) hS h
end Go.Proofs.Ytdehkaknbmbieaa

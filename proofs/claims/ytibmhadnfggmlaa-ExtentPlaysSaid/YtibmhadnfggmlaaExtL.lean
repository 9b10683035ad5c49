/- Package extent: the law of a loop over a set; append within a fence, in the words of App. -/
import Derived.Test.YtibmhadnfggmlaaExtA
namespace Go.Proofs.Ytibmhadnfggmlaa
open Go.RowKit Go.Shelf
attribute [local go_sem] Oper.semAt_some

theorem wpListIn_app {F : Fence} {n0 : Nat} {P : Program} (w : World) {ops : Array Oper} {rest : List Oper} {o : Oper} {a : Act} {Q : Exit → Act → World → Prop} (hgd : o.guard = none) (s x : Operand) (t : TypeId)
    (ho : o.op = .call { callee := .builtin .append, args := #[s, x], argTypes := #[t, t] })
    (e : TypeId) (i : TypeInfo) (z : Value) (size bytes : Nat) (ht : P.underlying t = some (.slice e)) (hi : P.info? e = some i) (hz : i.zero = some z)
    (hsize : i.size = size) (hby : i.bytes = bytes) (hzs : z.cells.size = size) (hsz : 0 < size)
    (v : Value) (n : Nat) (xs : List Value) (hs : a.eval s = v) (hown : Row w e size v n xs)
    (ad : Addr) (m c : Nat) (news : List Value) (hx : a.eval x = .slice (some ad) m c) (hl : news.length = m * size) (hnews : ∀ j u, news[j]? = some u → w.cell? (ad.add j) = some u) (h1 : ∀ u ∈ news, u.oneCell' = true)
    (h63 : n + m ≤ maxLen) (hbytes : (n + m) * bytes ≤ 140737488355328)
    (h : ∀ v' w', Row w' e size v' (n + m) (xs ++ news) → Upd v.ownBlock.toList w w' → Later w v v' → wpListIn F n0 P ops Q rest (a.put o.dst v') w') : wpListIn F n0 P ops Q (o :: rest) a w := by
  refine wpListIn_plain hgd fun K hK' => ?_
  obtain ⟨v', w', hr, h2, h3, h4⟩ := run_app (P := P) w t o.type e i z size bytes ht hi hz hsize hby hzs hsz v n xs hown ad m c news hl hnews h1 h63 hbytes
  unfold Oper.wpIn
  refine ⟨?_, ?_⟩
  · simp [Oper.about, ho, resolve, Target.leads, Sem.run_pure]
  · rw [Oper.semAt_plain F _ _ (by rw [ho]; intro c hc'; cases hc')]
    simp [execOp, ho, resolve, invoke, builtin, hs, hx, hr, Result.andThen]
    exact hK' _ _ (h v' w' h2 h3 h4)
theorem Upd.keeps {fp : List Nat} {w w' : World} (h : Upd fp w w') {B : Nat} (hc : ∀ k, k ∈ fp → B ≤ k → ∀ o, w.heap[k]? = some o → o.isCells = true) : KeepsFrom B w w' :=
  ⟨h.size, fun k o hk ho hn => by
    by_cases hm : k ∈ fp
    · have := hc k hm hk o ho; rw [this] at hn; cases hn
    · exact (h.block k (Array.getElem?_eq_some_iff.1 ho).1 hm).trans ho⟩
theorem Blk.isc {w : World} {b : Nat} {cs : List Value} {t : TypeId} (h : Blk w b cs t) : ∀ o, w.heap[b]? = some o → o.isCells = true := fun o ho => by
  unfold Blk at h; rw [h] at ho; cases ho; rfl
theorem Row.isc {w : World} {e : TypeId} {size : Nat} {v : Value} {n : Nat} {xs : List Value} (h : Row w e size v n xs) : ∀ g, v.ownBlock = some g → ∀ o, w.heap[g]? = some o → o.isCells = true := fun g hg o ho => by
  rcases h.2 with ⟨rfl, rfl⟩ | ⟨g', cap, cur, rfl, hb, hh, _⟩
  · simp [Value.ownBlock] at hg
  · simp [Value.ownBlock] at hg; subst hg; rw [hh] at ho; cases ho; rfl
theorem blk_own {β : Type} (B b : Nat) (f : β → List Value) (t : TypeId) : OwnFrom B (fun s W => Blk W b (f s) t) := fun s W W' row hs hg hr =>
  Blk.grown hs hg (fun e => by obtain ⟨_, o, ho, hc⟩ := hr b e; rw [Blk.isc hs o ho] at hc; cases hc)
theorem grown_upd {w w' : World} {row : Option Nat} (hg : w.grownBy w' row) : Upd row.toList w w' := (Upd.refl _ w).grown hg (fun k hk => .inl (by simp [hk]))
theorem Row.own {w w' : World} {e : TypeId} {size : Nat} {v : Value} {n : Nat} {xs : List Value} {row : Option Nat} {B : Nat} (h : Row w e size v n xs) (hg : w.grownBy w' row) (hr : ∀ r, row = some r → B ≤ r ∧ ∃ o : Obj, w.heap[r]? = some o ∧ o.isCells = false) : Row w' e size v n xs :=
  h.upd (grown_upd hg) (fun k hk hm => by
    simp at hm; obtain ⟨_, o, ho, hc⟩ := hr k hm; rw [h.isc k hk o ho] at hc; cases hc)
theorem upd_own {β : Type} (B : Nat) (fp : List Nat) (w0 : World) (hB : w0.heap.size ≤ B) : OwnFrom B (fun (_ : β) W => Upd fp w0 W) := fun s W W' row hs hg hr =>
  hs.grown hg (fun k hk => .inr (by have := (hr k hk).1; omega))
theorem all_stops (Bs n₀ : Nat) (p : Option Addr) (zs : List (Int × Int)) (w : World) (hn₀ : n₀ ≤ w.heap.size) (hc : w.cell? ⟨Bs, 0, none⟩ = some (.pointer p)) (hS : SetIn n₀ w p zs) :
    SeqStopsK Fence.wide 8 Try.prog 31 #[.pointer (some ⟨Bs, 0, none⟩)] (fun x : {x // x ∈ zs} => #[Value.agg #[.int .i64 x.1.1, .int .i64 x.1.2]]) (Below n₀) (fun ys => ys = zs.attach) (fun pre => pre <+: zs.attach) zs.length w :=
  fun l J Jx W hW hJ _ hY h0 =>
    all1_in l Bs n₀ p zs J Jx W hJ (by have := hW.size; omega) hY ((hW.cell (p := ⟨Bs, 0, none⟩) (World.block_lt_of_cell? w _ hc)).trans hc) (hS.below (hW.mono hn₀)) h0
def vals {zs : List (Int × Int)} (pre : List {x // x ∈ zs}) : List (Int × Int) := pre.map (·.1)
theorem vals_snoc {zs : List (Int × Int)} (pre : List {x // x ∈ zs}) (x : {x // x ∈ zs}) : vals (pre ++ [x]) = vals pre ++ [x.1] := by simp [vals]
theorem vals_len {zs : List (Int × Int)} (pre : List {x // x ∈ zs}) : (vals pre).length = pre.length := by simp [vals]
theorem vals_all (zs : List (Int × Int)) : vals zs.attach = zs := List.attach_map_subtype_val zs
theorem vals_pre {zs : List (Int × Int)} {pre : List {x // x ∈ zs}} (h : pre <+: zs.attach) : vals pre <+: zs := by
  obtain ⟨r, hr⟩ := h
  refine ⟨vals r, ?_⟩
  have e : vals (pre ++ r) = vals zs.attach := by rw [hr]
  rw [vals_all] at e
  exact (by simp [vals] : vals pre ++ vals r = vals (pre ++ r)).trans e
/-- **A loop over a set.** -/
theorem loopSet {g : Operand} {ps : Array Tmp} {assign body : Code} {Q : Exit → Act → World → Prop} {a : Act} {w : World} (Bs n₀ : Nat) (p : Option Addr) (zs : List (Int × Int))
    (hg : a.eval g = .func (.func 31) #[] #[.pointer (some ⟨Bs, 0, none⟩)]) (hps : ps.size = 1) (hn₀ : n₀ ≤ w.heap.size) (hc : w.cell? ⟨Bs, 0, none⟩ = some (.pointer p)) (hS : SetIn n₀ w p zs)
    (I : List (Int × Int) → World → Prop) (Ix : Code → List (Int × Int) → World → Prop) (hI : OwnFrom w.heap.size I) (hIx : ∀ c, OwnFrom w.heap.size (Ix c)) (h0 : I [] w) (act : Nat → Int × Int → Act)
    (X : Nat → World → Prop) (hX : ∀ Bx, OwnFrom w.heap.size (fun (_ : Unit) W => X Bx W)) (hX0 : ∀ pre (x : Int × Int) W, I pre W → w.heap.size ≤ W.heap.size → X W.heap.size (W.alloc (.cells #[.int .i64 x.1, .int .i64 x.2] 24)))
    (hassign : ∀ (L : Nat) (x : Int × Int) (Bx : Nat) (W : World) (K : Act → World → Prop), Bx = W.heap.size → K (act Bx x) (W.alloc (.cells #[.int .i64 x.1, .int .i64 x.2] 24)) →
      assign.wpIn (Fence.wide.inRound L) 7 Try.prog (Exit.then K (fun _ _ _ => False)) { tmps := (ps.zip #[Value.agg #[.int .i64 x.1, .int .i64 x.2]]).foldl (fun t (p, v) => t.setIfInBounds p v) a.tmps, defers := [] } W)
    (hbody : ∀ (L : Nat) (pre : List (Int × Int)) (x : Int × Int) (Bx : Nat) (W : World), w.heap.size ≤ Bx → w.heap.size ≤ W.heap.size → x ∈ zs → (∀ y ∈ pre, y ∈ zs) → Blk W Bx [.int .i64 x.1, .int .i64 x.2] 24 → X Bx W → I pre W → pre.length < zs.length →
      body.wpIn (Fence.wide.inRound L) 7 Try.prog (ownPostG w.heap.size (Below n₀) I Ix (pre ++ [x]) W) (act Bx x) W)
    (hdone : ∀ (D : Nat) (W : World), w.heap.size ≤ D → I zs W → W.heap[D]? = some (.deferred (some [])) → Q .normal { a with defers := { target := .collected D, args := #[] } :: a.defers } W)
    (hstop : ∀ (D : Nat) (c : Code) (pre : List (Int × Int)) (W : World), w.heap.size ≤ D → pre <+: zs → Ix c pre W → W.heap[D]? = some (.deferred (some [])) → c.wpIn Fence.wide 9 Try.prog Q { a with defers := { target := .collected D, args := #[] } :: a.defers } W) :
    (Code.rangeFunc g ps assign body).wpIn Fence.wide 9 Try.prog Q a w := by
  refine wpIn_rangeFunc_ownH (n := 9) rfl (by omega) (gf := 31) (lb := #[.pointer (some ⟨Bs, 0, none⟩)]) hg trivial (enters_of Try.func31 (by kernel_rfl) rfl)
    (all_stops Bs n₀ p zs w hn₀ hc hS) belowK_t (belowK_b hn₀) (Below.refl _ _) (fun _ => hps.symm)
    (fun pre W => (∃ x, x = vals pre ∧ I x W) ∧ w.heap.size ≤ W.heap.size) (fun c pre W => ∃ x, x = vals pre ∧ Ix c x W)
    (OwnFrom.and (fun s A B row hs hg hr => by obtain ⟨x, hx, hs⟩ := hs; exact ⟨x, hx, hI _ _ _ _ hs hg hr⟩) (fun s A B row hs hg hr => Nat.le_trans hs hg.size))
    (fun c s A B row hs hg hr => by obtain ⟨x, hx, hs⟩ := hs; exact ⟨x, hx, hIx c _ _ _ _ hs hg hr⟩) ⟨⟨[], rfl, h0⟩, Nat.le_refl _⟩
    (fun x a' W => ∃ Bx, w.heap.size ≤ Bx ∧ Blk W Bx [.int .i64 x.1.1, .int .i64 x.1.2] 24 ∧ a' = act Bx x.1 ∧ X Bx W)
    (fun x a' _ Z Y row hs hg hr => by obtain ⟨Bx, h1, h2, h3, h4⟩ := hs; exact ⟨Bx, h1, blk_own w.heap.size Bx (fun (_ : Unit) => [.int .i64 x.1.1, .int .i64 x.1.2]) _ () Z Y row h2 hg hr, h3, hX Bx () Z Y row h4 hg hr⟩)
    ?assign ?body ?done ?stop
  case assign =>
    rintro l pre x W K ⟨⟨y, rfl, hi⟩, hb⟩ hK
    refine hassign l x.1 _ W K rfl (hK _ _ ((KeepsOthers.alloc _ _).from _) ((Below.refl _ W).alloc (by omega) _) ⟨⟨_, rfl, hI.alloc _ hi⟩, by simp; omega⟩ ⟨W.heap.size, hb, Blk.new W _ _, rfl, hX0 _ _ _ hi hb⟩)
  case body =>
    rintro l pre x a' W hl ⟨r, hr⟩ ⟨⟨y, rfl, hi⟩, hb⟩ ⟨Bx, hBx, hbx, rfl, hxx⟩ hlt
    refine wpIn_mono (hbody l (vals pre) x.1 Bx W hBx hb x.2 (fun y hy => by obtain ⟨z, _, rfl⟩ := List.mem_map.1 hy; exact z.2) hbx hxx hi (by rw [vals_len]; exact hlt)) ?_
    rintro e a3 W3 hp
    cases e with
    | normal => exact ⟨hp.1, hp.2.1, ⟨_, (vals_snoc _ _).symm, hp.2.2⟩, Nat.le_trans hb hp.1.size⟩
    | ret => exact ⟨hp.1, _, (vals_snoc _ _).symm, hp.2⟩
    | exit id => exact ⟨hp.1, _, (vals_snoc _ _).symm, hp.2⟩
    | goto t => exact ⟨hp.1, _, (vals_snoc _ _).symm, hp.2⟩
    | panic ch => exact hp.elim
    | outgrown => exact hp.elim
  case done =>
    rintro D ys W hD rfl ⟨⟨y, rfl, hi⟩, hb⟩ hk
    rw [vals_all] at hi
    exact hdone D W hD hi hk
  case stop =>
    rintro D c pre W hD hpre ⟨y, rfl, hi⟩ hk
    exact hstop D c _ W hD (vals_pre hpre) hi hk
end Go.Proofs.Ytibmhadnfggmlaa

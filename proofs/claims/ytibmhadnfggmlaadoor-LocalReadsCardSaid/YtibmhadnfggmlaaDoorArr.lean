/- Whole arrays and made rows, in the words of Mem: loads and stores of a block that is known whole, an element of an array's value, make. -/
import Derived.Test.YtibmhadnfggmlaaDoorApp
import Derived.Laws.Rows
import Derived.OwnWalk
namespace Go.Proofs.YtibmhadnfggmlaaDoor
open Go.RowKit

section
variable {P : Program}
theorem wpList_loadBlk {ops : Array Oper} {rest : List Oper} {o : Oper} {a : Act} {w : World} {Q : Exit → Act → World → Prop} (hgd : o.guard = none) (ty : TypeId) (x : Operand) (ho : o.op = .load ty x)
    (b : Nat) (hx : a.eval x = .pointer (some ⟨b, 0, none⟩)) (t : TypeId) (cs : List Value) (hB : Blk w b cs t) (d : TypeDesc)
    (hu : P.underlying ty = some d) (hd : (match d with | .struct _ | .array _ _ => true | _ => false) = true) (hi : (P.info? ty).map (·.size) = some cs.length)
    (h : wpList P ops Q rest (a.put o.dst (.agg cs.toArray)) w) : wpList P ops Q (o :: rest) a w :=
  wpList_load_row hgd ty x ho b hx t cs.toArray (0, 0) d hB hu hd (by simpa using hi) h

theorem run_storeBlk (w : World) (ty t : TypeId) (b : Nat) (cs ds : List Value) (hB : Blk w b cs t) (hi : (P.info? ty).map (·.size) = some cs.length) (hl : ds.length = cs.length) (h1 : ∀ v ∈ ds, v.oneCell' = true) :
    ∃ w', (storeVar ty ⟨b, 0, none⟩ (.agg ds.toArray)).run P w = .ok () w' ∧ Blk w' b ds t ∧ Upd [b] w w' := by
  have hst := run_storeCells_at P b 0 t ds 0 cs.toArray w hB (by simp; omega) h1
  have e : (((cs.toArray.toList.take (0 + 0)) ++ ds ++ cs.toArray.toList.drop (0 + 0 + ds.length)).toArray) = ds.toArray := by
    simp [hl]
  obtain ⟨i, hi1, hi2⟩ := Option.map_eq_some_iff.1 hi
  refine ⟨w.setRow b ds.toArray, ?_, ?_, ?_⟩
  · rw [e] at hst
    simp only [storeVar, Value.cells, sizeOf, typeInfo, Sem.run_bind, Sem.run_pure]
    simp [hi1, hi2, hl]
    simpa using hst
  · exact setRow_heap w b cs.toArray _ t _ hB
  · exact ⟨rfl, rfl, rfl, by simp, fun k _ hk => setRow_other w b k _ (fun e => hk (by simp [e]))⟩

theorem wpList_storeBlk {ops : Array Oper} {rest : List Oper} {o : Oper} {a : Act} {w : World} {Q : Exit → Act → World → Prop} (hgd : o.guard = none) (ty : TypeId) (x y : Operand) (ho : o.op = .store ty x y)
    (b : Nat) (hx : a.eval x = .pointer (some ⟨b, 0, none⟩)) (ds : List Value) (hy : a.eval y = .agg ds.toArray) (t : TypeId) (cs : List Value) (hB : Blk w b cs t)
    (hi : (P.info? ty).map (·.size) = some cs.length) (hl : ds.length = cs.length) (h1 : ∀ v ∈ ds, v.oneCell' = true)
    (h : ∀ w', Blk w' b ds t → Upd [b] w w' → wpList P ops Q rest (a.put o.dst undef) w') : wpList P ops Q (o :: rest) a w := by
  refine wpList_plain hgd fun K hK => ?_
  obtain ⟨w', hr, h2, h3⟩ := run_storeBlk (P := P) w ty t b cs ds hB hi hl h1
  unfold Oper.wp execOp
  simp only [ho, hx, hy, Instr.storeAt, Instr.sureAddr, Sem.run_bind, Sem.run_pure, Result.andThen_ok, hr, Oper.upon]
  exact hK _ _ (h w' h2 h3)

/-- A store into the head of a block: an array at a struct's begin. -/
theorem run_storePre (w : World) (ty t : TypeId) (b : Nat) (cs ds rs : List Value) (hB : Blk w b (cs ++ rs) t) (hi : (P.info? ty).map (·.size) = some cs.length) (hl : ds.length = cs.length) (h1 : ∀ v ∈ ds, v.oneCell' = true) :
    ∃ w', (storeVar ty ⟨b, 0, none⟩ (.agg ds.toArray)).run P w = .ok () w' ∧ Blk w' b (ds ++ rs) t ∧ Upd [b] w w' := by
  have hst := run_storeCells_at P b 0 t ds 0 (cs ++ rs).toArray w hB (by simp; omega) h1
  have e : ((((cs ++ rs).toArray.toList.take (0 + 0)) ++ ds ++ (cs ++ rs).toArray.toList.drop (0 + 0 + ds.length)).toArray) = (ds ++ rs).toArray := by
    simp [hl]
  obtain ⟨i, hi1, hi2⟩ := Option.map_eq_some_iff.1 hi
  refine ⟨w.setRow b (ds ++ rs).toArray, ?_, ?_, ?_⟩
  · rw [e] at hst
    simp only [storeVar, Value.cells, sizeOf, typeInfo, Sem.run_bind, Sem.run_pure]
    simp [hi1, hi2, hl]
    simpa using hst
  · exact setRow_heap w b (cs ++ rs).toArray _ t _ hB
  · exact ⟨rfl, rfl, rfl, by simp, fun k _ hk => setRow_other w b k _ (fun e => hk (by simp [e]))⟩
theorem wpList_storePre {ops : Array Oper} {rest : List Oper} {o : Oper} {a : Act} {w : World} {Q : Exit → Act → World → Prop} (hgd : o.guard = none) (ty : TypeId) (x y : Operand) (ho : o.op = .store ty x y)
    (b : Nat) (hx : a.eval x = .pointer (some ⟨b, 0, none⟩)) (ds : List Value) (hy : a.eval y = .agg ds.toArray) (t : TypeId) (cs rs : List Value) (hB : Blk w b (cs ++ rs) t)
    (hi : (P.info? ty).map (·.size) = some cs.length) (hl : ds.length = cs.length) (h1 : ∀ v ∈ ds, v.oneCell' = true)
    (h : ∀ w', Blk w' b (ds ++ rs) t → Upd [b] w w' → wpList P ops Q rest (a.put o.dst undef) w') : wpList P ops Q (o :: rest) a w := by
  refine wpList_plain hgd fun K hK => ?_
  obtain ⟨w', hr, h2, h3⟩ := run_storePre (P := P) w ty t b cs ds rs hB hi hl h1
  unfold Oper.wp execOp
  simp only [ho, hx, hy, Instr.storeAt, Instr.sureAddr, Sem.run_bind, Sem.run_pure, Result.andThen_ok, hr, Oper.upon]
  exact hK _ _ (h w' h2 h3)

/-- An element of an array's value, a number. -/
theorem run_indexAgg (T e : TypeId) (n : Nat) (hT : P.underlying T = some (.array n e)) (ik : IntKind) (he : P.underlying e = some (.int ik))
    (hs : (P.info? e).map (·.size) = some 1) (cs : List Value) (hl : cs.length = n) (k : IntKind) (i : Nat) (hi : i < n) (w : World) :
    (Instr.index T (.agg cs.toArray) (.int k (i : Int))).run P w = .ok (cs.getD i undef) w := by
  obtain ⟨f, hf1, hf2⟩ := Option.map_eq_some_iff.1 hs
  simp [Instr.index, asIntOf, run_underlying hT, sizeOf, typeInfo, hf1, hf2, hi, part, isAgg, run_underlying he]
  simp [show i < cs.length by omega]

/-- make([]T, n). -/
theorem wpList_mk (w : World) {ops : Array Oper} {rest : List Oper} {o : Oper} {a : Act} {Q : Exit → Act → World → Prop}
    (hg : o.guard = none) (l c : Operand) (t : TypeId) (hop : o.op = Op.makeSlice t l c)
    (e : TypeId) (i : TypeInfo) (z : Value) (h1 : P.underlying t = some (.slice e)) (h2 : P.info? e = some i) (h3 : i.zero = some z) (h4 : i.size = 1) (hz : z.cells = #[z])
    (kl kc : IntKind) (L C : Int) (n : Nat) (hl : a.eval l = .int kl L) (hc : a.eval c = .int kc C) (hL : L = (n : Int)) (hC : C = (n : Int)) (b2 : i.bytes * n ≤ 281474976710656) (b3 : n ≤ maxLen)
    (hK : ∀ w', Row w' e 1 (.slice (some ⟨w.heap.size, 0, none⟩) n n) n (List.replicate n z) → Upd [] w w' → w.heap.size < w'.heap.size → wpList P ops Q rest (a.put o.dst (.slice (some ⟨w.heap.size, 0, none⟩) n n)) w') :
    wpList P ops Q (o :: rest) a w := by
  refine wpList_make_full w hg l c t hop 0 e i z 1 h1 h2 h3 h4 kl kc L C n hl hc hL hC b2 b3 (Nat.zero_le _) ?_
  intro w' r1 r2
  rw [Nat.mul_one, hz, toList_madeCells_one] at r1
  refine hK w' r1 ((Upd.refl _ w).grown r2 (by simp)) ?_
  exact Row.lt r1 _ rfl
end
end Go.Proofs.YtibmhadnfggmlaaDoor

/- append, in the words of Mem (Row, Upd, Later): onto a row that the call owns, of a slice's cells or of a string's bytes; as a law of a plain region (wpList_..) and of a step of a region that draws its order (step_..). -/
import Derived.Lib.AppendStr
import Derived.Maps.AppendAt
import Derived.Deep.AppendLies
import Derived.Test.YtdehkaknbmbieaaGreatQAA
import Derived.Laws.Rows
import Derived.OwnWalk
import Derived.Laws.BytesArg
namespace Go.Proofs.YtdehkaknbmbieaaGreat
set_option linter.unusedVariables false
set_option linter.unusedSimpArgs false
set_option linter.unusedSectionVars false
open Go.RowKit

/-- The later blocks of a row: those that it had, or new ones. -/
def Later (w : World) (v v' : Value) : Prop := v'.ownBlock = v.ownBlock ∨ ∃ g, v'.ownBlock = some g ∧ w.heap.size ≤ g
theorem Later.refl (w : World) (v : Value) : Later w v v := .inl rfl
theorem Later.trans {w w' : World} {u v x : Value} (h : Later w u v) (hs : w.heap.size ≤ w'.heap.size) (h' : Later w' v x) : Later w u x := by
  rcases h' with h' | ⟨g, h1, h2⟩
  · rcases h with h | ⟨g, h1, h2⟩
    · exact .inl (h'.trans h)
    · exact .inr ⟨g, h'.trans h1, h2⟩
  · exact .inr ⟨g, h1, Nat.le_trans hs h2⟩
theorem Later.ne {w : World} {v v' : Value} {b : Nat} (h : Later w v v') (hb : b < w.heap.size) (hn : v.ownBlock ≠ some b) : v'.ownBlock ≠ some b := by
  rcases h with h | ⟨g, h1, h2⟩
  · rw [h]; exact hn
  · rw [h1]; simp only [ne_eq, Option.some.injEq]; omega
/-- The same, of lists of blocks: each of the later ones was there, or is new. -/
def LaterFp (w : World) (fp fp' : List Nat) : Prop := ∀ k, k ∈ fp' → k ∈ fp ∨ w.heap.size ≤ k
theorem LaterFp.refl (w : World) (fp : List Nat) : LaterFp w fp fp := fun _ h => .inl h
theorem LaterFp.trans {w w' : World} {a b c : List Nat} (h : LaterFp w a b) (hs : w.heap.size ≤ w'.heap.size) (h' : LaterFp w' b c) : LaterFp w a c := fun k hk => by
  rcases h' k hk with h1 | h1
  · exact h k h1
  · exact .inr (Nat.le_trans hs h1)
theorem Later.fp {w : World} {v v' : Value} (h : Later w v v') : LaterFp w v.ownBlock.toList v'.ownBlock.toList := fun k hk => by
  rcases h with h | ⟨g, h1, h2⟩
  · rw [← h]; exact .inl hk
  · rw [h1] at hk; simp at hk; exact .inr (by omega)

section
variable {P : Program} (w : World)

theorem run_app (t ty e : TypeId) (i : TypeInfo) (z : Value) (size bytes : Nat) (ht : P.underlying t = some (.slice e)) (hi : P.info? e = some i) (hz : i.zero = some z)
    (hsize : i.size = size) (hby : i.bytes = bytes) (hzs : z.cells.size = size) (hsz : 0 < size)
    (v : Value) (n : Nat) (xs : List Value) (hown : Row w e size v n xs)
    (a : Addr) (m c : Nat) (news : List Value) (hl : news.length = m * size) (hnews : ∀ j u, news[j]? = some u → w.cell? (a.add j) = some u) (h1 : ∀ u ∈ news, u.oneCell' = true)
    (h63 : n + m ≤ maxLen) (hbytes : (n + m) * bytes ≤ 140737488355328) :
    ∃ v' w', (Builtin.append_ #[t, t] ty #[v, .slice (some a) m c]).run P w = .ok v' w' ∧ Row w' e size v' (n + m) (xs ++ news) ∧ Upd v.ownBlock.toList w w' ∧ Later w v v' := by
  obtain ⟨v', w', h2, h3, h4, _, h6⟩ := run_append_own_at (P := P) w 0 t ty e i z size bytes ht hi hz hsize hby hzs hsz v n xs hown a m c news hl hnews h1 h63 hbytes (Nat.zero_le _)
  refine ⟨v', w', h2, h3, (Upd.refl _ w).grown h4 (fun k hk => .inl (by simp [hk])), ?_⟩
  rcases h6 with h6 | h6
  · exact .inl h6
  · exact .inr ⟨_, h6, Nat.le_refl _⟩

theorem run_app_str (t u ty e : TypeId) (i : TypeInfo) (ht : P.underlying t = some (.slice e)) (hu : P.underlying u = some .string) (hi : P.info? e = some i) (hz : i.zero = some (.int .u8 0))
    (hsize : i.size = 1) (hby : i.bytes = 1) (v : Value) (n : Nat) (xs : List Value) (hown : Row w e 1 v n xs) (s : ByteArray)
    (h63 : n + s.size ≤ maxLen) (hbytes : n + s.size ≤ 140737488355328) :
    ∃ v' w', (Builtin.append_ #[t, u] ty #[v, .string s]).run P w = .ok v' w' ∧ Row w' e 1 v' (n + s.size) (xs ++ Lib.strCells s) ∧ Upd v.ownBlock.toList w w' ∧ Later w v v' := by
  obtain ⟨v', w', h2, h3, h4, _⟩ := Lib.run_append_own_string (P := P) w 0 t u ty e i ht hu hi hz hsize hby v n xs hown s h63 hbytes (Nat.zero_le _)
  refine ⟨v', w', h2, h3, (Upd.refl _ w).grown h4 (fun k hk => .inl (by simp [hk])), ?_⟩
  have hsmall : n + s.size ≤ 9223372036854775807 := by simp only [maxLen] at h63; omega
  rcases hown.2 with ⟨rfl, rfl⟩ | ⟨g, cap, cur, rfl, hbg, hg, hnc, hcm, hcs, htake⟩
  · have hx : xs = [] := List.eq_nil_of_length_eq_zero (by simpa using hown.1)
    subst hx
    obtain ⟨v2, w2, k2, k3, _, _⟩ := Lib.run_append_own_string (P := P) w w.heap.size t u ty e i ht hu hi hz hsize hby (.slice none 0 0) 0 [] (World.ownsRow_nil w _ _ _) s h63 hbytes (Nat.le_refl _)
    rw [h2] at k2
    cases k2
    cases hv : v'.ownBlock with
    | none => exact .inl (by rw [hv]; rfl)
    | some g => exact .inr ⟨g, hv, (World.ownsRow.lt k3 g hv).1⟩
  · by_cases hroom : n + s.size ≤ cap
    · have hr := Lib.run_append_room_string (P := P) w t u ty e i ht hu hi hsize g n cap cur hg s hroom (by omega)
      rw [h2] at hr
      cases hr
      exact .inl rfl
    · have holds : ∀ j u, xs[j]? = some u → w.cell? ((⟨g, 0, none⟩ : Addr).add j) = some u := World.ownsRow.cells hown (g := g) rfl
      have hxl : xs.length = n := by simpa using hown.1
      have hr := Lib.run_append_grow_string (P := P) w t u ty e i (.int .u8 0) ht hu hi hz ⟨g, 0, none⟩ n cap xs (by rw [hsize]; simpa using hxl) holds s (by omega) (by omega) (by rw [hby]; exact growslice_fits (by omega) (by omega))
      rw [h2] at hr
      cases hr
      exact .inr ⟨_, rfl, Nat.le_refl _⟩

theorem wp_app {o : Oper} {a : Act} {K : Act → World → Prop} {Q : Exit → Act → World → Prop} (s x : Operand) (t : TypeId)
    (ho : o.op = .call { callee := .builtin .append, args := #[s, x], argTypes := #[t, t] })
    (e : TypeId) (i : TypeInfo) (z : Value) (size bytes : Nat) (ht : P.underlying t = some (.slice e)) (hi : P.info? e = some i) (hz : i.zero = some z)
    (hsize : i.size = size) (hby : i.bytes = bytes) (hzs : z.cells.size = size) (hsz : 0 < size)
    (v : Value) (n : Nat) (xs : List Value) (hs : a.eval s = v) (hown : Row w e size v n xs)
    (ad : Addr) (m c : Nat) (news : List Value) (hx : a.eval x = .slice (some ad) m c) (hl : news.length = m * size) (hnews : ∀ j u, news[j]? = some u → w.cell? (ad.add j) = some u) (h1 : ∀ u ∈ news, u.oneCell' = true)
    (h63 : n + m ≤ maxLen) (hbytes : (n + m) * bytes ≤ 140737488355328)
    (h : ∀ v' w', Row w' e size v' (n + m) (xs ++ news) → Upd v.ownBlock.toList w w' → Later w v v' → K (a.put o.dst v') w') : o.wp P a w K Q := by
  obtain ⟨v', w', hr, h2, h3, h4⟩ := run_app (P := P) w t o.type e i z size bytes ht hi hz hsize hby hzs hsz v n xs hown ad m c news hl hnews h1 h63 hbytes
  unfold Oper.wp execOp
  simp only [ho, resolve, invoke, builtin, Sem.run_bind, Sem.run_pure, Result.andThen_ok, List.map_toArray, List.map_cons, List.map_nil, hs, hx, hr]
  exact h v' w' h2 h3 h4
theorem wp_app_str {o : Oper} {a : Act} {K : Act → World → Prop} {Q : Exit → Act → World → Prop} (sl x : Operand) (t u : TypeId)
    (ho : o.op = .call { callee := .builtin .append, args := #[sl, x], argTypes := #[t, u] })
    (e : TypeId) (i : TypeInfo) (ht : P.underlying t = some (.slice e)) (hu : P.underlying u = some .string) (hi : P.info? e = some i) (hz : i.zero = some (.int .u8 0))
    (hsize : i.size = 1) (hby : i.bytes = 1) (v : Value) (n : Nat) (xs : List Value) (hs : a.eval sl = v) (hown : Row w e 1 v n xs) (s : ByteArray) (hx : a.eval x = .string s)
    (h63 : n + s.size ≤ maxLen) (hbytes : n + s.size ≤ 140737488355328)
    (h : ∀ v' w', Row w' e 1 v' (n + s.size) (xs ++ Lib.strCells s) → Upd v.ownBlock.toList w w' → Later w v v' → K (a.put o.dst v') w') : o.wp P a w K Q := by
  obtain ⟨v', w', hr, h2, h3, h4⟩ := run_app_str (P := P) w t u o.type e i ht hu hi hz hsize hby v n xs hown s h63 hbytes
  unfold Oper.wp execOp
  simp only [ho, resolve, invoke, builtin, Sem.run_bind, Sem.run_pure, Result.andThen_ok, List.map_toArray, List.map_cons, List.map_nil, hs, hx, hr]
  exact h v' w' h2 h3 h4
theorem wpList_app {ops : Array Oper} {rest : List Oper} {o : Oper} {a : Act} {Q : Exit → Act → World → Prop} (hgd : o.guard = none) (s x : Operand) (t : TypeId)
    (ho : o.op = .call { callee := .builtin .append, args := #[s, x], argTypes := #[t, t] })
    (e : TypeId) (i : TypeInfo) (z : Value) (size bytes : Nat) (ht : P.underlying t = some (.slice e)) (hi : P.info? e = some i) (hz : i.zero = some z)
    (hsize : i.size = size) (hby : i.bytes = bytes) (hzs : z.cells.size = size) (hsz : 0 < size)
    (v : Value) (n : Nat) (xs : List Value) (hs : a.eval s = v) (hown : Row w e size v n xs)
    (ad : Addr) (m c : Nat) (news : List Value) (hx : a.eval x = .slice (some ad) m c) (hl : news.length = m * size) (hnews : ∀ j u, news[j]? = some u → w.cell? (ad.add j) = some u) (h1 : ∀ u ∈ news, u.oneCell' = true)
    (h63 : n + m ≤ maxLen) (hbytes : (n + m) * bytes ≤ 140737488355328)
    (h : ∀ v' w', Row w' e size v' (n + m) (xs ++ news) → Upd v.ownBlock.toList w w' → Later w v v' → wpList P ops Q rest (a.put o.dst v') w') : wpList P ops Q (o :: rest) a w :=
  wpList_plain hgd fun _ hK => wp_app w s x t ho e i z size bytes ht hi hz hsize hby hzs hsz v n xs hs hown ad m c news hx hl hnews h1 h63 hbytes fun v' w' h2 h3 h4 => hK _ _ (h v' w' h2 h3 h4)
theorem wpList_app_str {ops : Array Oper} {rest : List Oper} {o : Oper} {a : Act} {Q : Exit → Act → World → Prop} (hgd : o.guard = none) (sl x : Operand) (t u : TypeId)
    (ho : o.op = .call { callee := .builtin .append, args := #[sl, x], argTypes := #[t, u] })
    (e : TypeId) (i : TypeInfo) (ht : P.underlying t = some (.slice e)) (hu : P.underlying u = some .string) (hi : P.info? e = some i) (hz : i.zero = some (.int .u8 0))
    (hsize : i.size = 1) (hby : i.bytes = 1) (v : Value) (n : Nat) (xs : List Value) (hs : a.eval sl = v) (hown : Row w e 1 v n xs) (s : ByteArray) (hx : a.eval x = .string s)
    (h63 : n + s.size ≤ maxLen) (hbytes : n + s.size ≤ 140737488355328)
    (h : ∀ v' w', Row w' e 1 v' (n + s.size) (xs ++ Lib.strCells s) → Upd v.ownBlock.toList w w' → Later w v v' → wpList P ops Q rest (a.put o.dst v') w') : wpList P ops Q (o :: rest) a w :=
  wpList_plain hgd fun _ hK => wp_app_str w sl x t u ho e i ht hu hi hz hsize hby v n xs hs hown s hx h63 hbytes fun v' w' h2 h3 h4 => hK _ _ (h v' w' h2 h3 h4)
/-- At a step of a region that draws its order (for go_region_law, go_region_held3). -/
theorem step_app {ops : Array Oper} {o : Oper} {a : Act} {K : Act → World → Prop} {Q : Exit → Act → World → Prop} {E : Prop} (hgd : o.guard = none) (s x : Operand) (t : TypeId)
    (ho : o.op = .call { callee := .builtin .append, args := #[s, x], argTypes := #[t, t] })
    (e : TypeId) (i : TypeInfo) (z : Value) (size bytes : Nat) (ht : P.underlying t = some (.slice e)) (hi : P.info? e = some i) (hz : i.zero = some z)
    (hsize : i.size = size) (hby : i.bytes = bytes) (hzs : z.cells.size = size) (hsz : 0 < size)
    (v : Value) (n : Nat) (xs : List Value) (hs : a.eval s = v) (hown : Row w e size v n xs)
    (ad : Addr) (m c : Nat) (news : List Value) (hx : a.eval x = .slice (some ad) m c) (hl : news.length = m * size) (hnews : ∀ j u, news[j]? = some u → w.cell? (ad.add j) = some u) (h1 : ∀ u ∈ news, u.oneCell' = true)
    (h63 : n + m ≤ maxLen) (hbytes : (n + m) * bytes ≤ 140737488355328)
    (h : ∀ v' w', Row w' e size v' (n + m) (xs ++ news) → Upd v.ownBlock.toList w w' → Later w v v' → K (a.put o.dst v') w') :
    if Region.wanted o (yielded ops a.tmps) = true then Oper.wp P o a w K Q else E := by
  have hw : Region.wanted o (yielded ops a.tmps) = true := by simp [Region.wanted, hgd]
  rw [if_pos hw]
  exact wp_app w s x t ho e i z size bytes ht hi hz hsize hby hzs hsz v n xs hs hown ad m c news hx hl hnews h1 h63 hbytes h
end
end Go.Proofs.YtdehkaknbmbieaaGreat
namespace Go.Proofs.YtdehkaknbmbieaaGreat
set_option linter.unusedVariables false
set_option linter.unusedSimpArgs false
set_option linter.unusedSectionVars false
open Go.RowKit

section
variable {P : Program}
theorem wpList_loadBlk {ops : Array Oper} {rest : List Oper} {o : Oper} {a : Act} {w : World} {Q : Exit → Act → World → Prop} (hgd : o.guard = none) (ty : TypeId) (x : Operand) (ho : o.op = .load ty x)
    (b : Nat) (hx : a.eval x = .pointer (some ⟨b, 0, none⟩)) (t : TypeId) (cs : List Value) (hB : Blk w b cs t) (d : TypeDesc)
    (hu : P.underlying ty = some d) (hd : (match d with | .struct _ | .array _ _ => true | _ => false) = true) (hi : (P.info? ty).map (·.size) = some cs.length)
    (h : wpList P ops Q rest (a.put o.dst (.agg cs.toArray)) w) : wpList P ops Q (o :: rest) a w :=
  wpList_load_row hgd ty x ho b hx t cs.toArray (0, 0) d hB hu hd (by simpa using hi) h

theorem run_storeBlk (w : World) (ty t : TypeId) (b : Nat) (cs ds : List Value) (hB : Blk w b cs t) (hi : (P.info? ty).map (·.size) = some cs.length) (hl : ds.length = cs.length) (h1 : ∀ v ∈ ds, v.oneCell' = true) :
    ∃ w', (storeVar ty ⟨b, 0, none⟩ (.agg ds.toArray)).run P w = .ok () w' ∧ Blk w' b ds t ∧ Upd [b] w w' := by
  have hst := run_storeCells_at P b 0 t ds 0 cs.toArray w hB (by simp; omega) h1
  have e : (((cs.toArray.toList.take (0 + 0)) ++ ds ++ cs.toArray.toList.drop (0 + 0 + ds.length)).toArray) = ds.toArray := by
    simp [hl]
  obtain ⟨i, hi1, hi2⟩ := Option.map_eq_some_iff.1 hi
  refine ⟨w.setRow b ds.toArray, ?_, ?_, ?_⟩
  · rw [e] at hst
    simp only [storeVar, Value.cells, sizeOf, typeInfo, Sem.run_bind, Sem.run_pure]
    simp [hi1, hi2, hl]
    simpa using hst
  · exact setRow_heap w b cs.toArray _ t _ hB
  · exact ⟨rfl, rfl, rfl, by simp, fun k _ hk => setRow_other w b k _ (fun e => hk (by simp [e]))⟩

theorem wpList_storeBlk {ops : Array Oper} {rest : List Oper} {o : Oper} {a : Act} {w : World} {Q : Exit → Act → World → Prop} (hgd : o.guard = none) (ty : TypeId) (x y : Operand) (ho : o.op = .store ty x y)
    (b : Nat) (hx : a.eval x = .pointer (some ⟨b, 0, none⟩)) (ds : List Value) (hy : a.eval y = .agg ds.toArray) (t : TypeId) (cs : List Value) (hB : Blk w b cs t)
    (hi : (P.info? ty).map (·.size) = some cs.length) (hl : ds.length = cs.length) (h1 : ∀ v ∈ ds, v.oneCell' = true)
    (h : ∀ w', Blk w' b ds t → Upd [b] w w' → wpList P ops Q rest (a.put o.dst undef) w') : wpList P ops Q (o :: rest) a w := by
  refine wpList_plain hgd fun K hK => ?_
  obtain ⟨w', hr, h2, h3⟩ := run_storeBlk (P := P) w ty t b cs ds hB hi hl h1
  unfold Oper.wp execOp
  simp only [ho, hx, hy, Instr.storeAt, Instr.sureAddr, Sem.run_bind, Sem.run_pure, Result.andThen_ok, hr, Oper.upon]
  exact hK _ _ (h w' h2 h3)

/-- A store into the head of a block: an array at a struct's begin. -/
theorem run_storePre (w : World) (ty t : TypeId) (b : Nat) (cs ds rs : List Value) (hB : Blk w b (cs ++ rs) t) (hi : (P.info? ty).map (·.size) = some cs.length) (hl : ds.length = cs.length) (h1 : ∀ v ∈ ds, v.oneCell' = true) :
    ∃ w', (storeVar ty ⟨b, 0, none⟩ (.agg ds.toArray)).run P w = .ok () w' ∧ Blk w' b (ds ++ rs) t ∧ Upd [b] w w' := by
  have hst := run_storeCells_at P b 0 t ds 0 (cs ++ rs).toArray w hB (by simp; omega) h1
  have e : ((((cs ++ rs).toArray.toList.take (0 + 0)) ++ ds ++ (cs ++ rs).toArray.toList.drop (0 + 0 + ds.length)).toArray) = (ds ++ rs).toArray := by
    simp [hl]
  obtain ⟨i, hi1, hi2⟩ := Option.map_eq_some_iff.1 hi
  refine ⟨w.setRow b (ds ++ rs).toArray, ?_, ?_, ?_⟩
  · rw [e] at hst
    simp only [storeVar, Value.cells, sizeOf, typeInfo, Sem.run_bind, Sem.run_pure]
    simp [hi1, hi2, hl]
    simpa using hst
  · exact setRow_heap w b (cs ++ rs).toArray _ t _ hB
  · exact ⟨rfl, rfl, rfl, by simp, fun k _ hk => setRow_other w b k _ (fun e => hk (by simp [e]))⟩
theorem wpList_storePre {ops : Array Oper} {rest : List Oper} {o : Oper} {a : Act} {w : World} {Q : Exit → Act → World → Prop} (hgd : o.guard = none) (ty : TypeId) (x y : Operand) (ho : o.op = .store ty x y)
    (b : Nat) (hx : a.eval x = .pointer (some ⟨b, 0, none⟩)) (ds : List Value) (hy : a.eval y = .agg ds.toArray) (t : TypeId) (cs rs : List Value) (hB : Blk w b (cs ++ rs) t)
    (hi : (P.info? ty).map (·.size) = some cs.length) (hl : ds.length = cs.length) (h1 : ∀ v ∈ ds, v.oneCell' = true)
    (h : ∀ w', Blk w' b (ds ++ rs) t → Upd [b] w w' → wpList P ops Q rest (a.put o.dst undef) w') : wpList P ops Q (o :: rest) a w := by
  refine wpList_plain hgd fun K hK => ?_
  obtain ⟨w', hr, h2, h3⟩ := run_storePre (P := P) w ty t b cs ds rs hB hi hl h1
  unfold Oper.wp execOp
  simp only [ho, hx, hy, Instr.storeAt, Instr.sureAddr, Sem.run_bind, Sem.run_pure, Result.andThen_ok, hr, Oper.upon]
  exact hK _ _ (h w' h2 h3)

/-- An element of an array's value, a number. -/
theorem run_indexAgg (T e : TypeId) (n : Nat) (hT : P.underlying T = some (.array n e)) (ik : IntKind) (he : P.underlying e = some (.int ik))
    (hs : (P.info? e).map (·.size) = some 1) (cs : List Value) (hl : cs.length = n) (k : IntKind) (i : Nat) (hi : i < n) (w : World) :
    (Instr.index T (.agg cs.toArray) (.int k (i : Int))).run P w = .ok (cs.getD i undef) w := by
  obtain ⟨f, hf1, hf2⟩ := Option.map_eq_some_iff.1 hs
  simp [Instr.index, asIntOf, run_underlying hT, sizeOf, typeInfo, hf1, hf2, hi, part, isAgg, run_underlying he]
  simp [show i < cs.length by omega]

/-- make([]T, n). -/
theorem wpList_mk (w : World) {ops : Array Oper} {rest : List Oper} {o : Oper} {a : Act} {Q : Exit → Act → World → Prop}
    (hg : o.guard = none) (l c : Operand) (t : TypeId) (hop : o.op = Op.makeSlice t l c)
    (e : TypeId) (i : TypeInfo) (z : Value) (h1 : P.underlying t = some (.slice e)) (h2 : P.info? e = some i) (h3 : i.zero = some z) (h4 : i.size = 1) (hz : z.cells = #[z])
    (kl kc : IntKind) (L C : Int) (n : Nat) (hl : a.eval l = .int kl L) (hc : a.eval c = .int kc C) (hL : L = (n : Int)) (hC : C = (n : Int)) (b2 : i.bytes * n ≤ 281474976710656) (b3 : n ≤ maxLen)
    (hK : ∀ w', Row w' e 1 (.slice (some ⟨w.heap.size, 0, none⟩) n n) n (List.replicate n z) → Upd [] w w' → w.heap.size < w'.heap.size → wpList P ops Q rest (a.put o.dst (.slice (some ⟨w.heap.size, 0, none⟩) n n)) w') :
    wpList P ops Q (o :: rest) a w := by
  refine wpList_make_full w hg l c t hop 0 e i z 1 h1 h2 h3 h4 kl kc L C n hl hc hL hC b2 b3 (Nat.zero_le _) ?_
  intro w' r1 r2
  rw [Nat.mul_one, hz, toList_madeCells_one] at r1
  refine hK w' r1 ((Upd.refl _ w).grown r2 (by simp)) ?_
  exact Row.lt r1 _ rfl
end
end Go.Proofs.YtdehkaknbmbieaaGreat
namespace Go.Proofs.YtdehkaknbmbieaaGreat
set_option linter.unusedVariables false
set_option linter.unusedSimpArgs false
set_option linter.unusedSectionVars false
open Go.RowKit

/-- Numbers as the cells of bytes; as a string. -/
def u8s (l : List Nat) : List Value := l.map fun x : Nat => .int .u8 (x : Int)
def strOf (l : List Nat) : ByteArray := ⟨(l.map UInt8.ofNat).toArray⟩
def bytesOf (s : ByteArray) : List Nat := s.data.toList.map UInt8.toNat
theorem u8s_snoc (l : List Nat) (x : Nat) : u8s (l ++ [x]) = u8s l ++ [.int .u8 (x : Int)] := by simp [u8s]
theorem u8s_append (l r : List Nat) : u8s (l ++ r) = u8s l ++ u8s r := by simp [u8s]
theorem length_u8s (l : List Nat) : (u8s l).length = l.length := by simp [u8s]
theorem strCells_eq (s : ByteArray) : Lib.strCells s = u8s (bytesOf s) := by simp [Lib.strCells, u8s, bytesOf]
theorem bytesOf_lt (s : ByteArray) : ∀ x ∈ bytesOf s, x < 256 := by
  intro x hx
  simp only [bytesOf, List.mem_map] at hx
  obtain ⟨b, _, rfl⟩ := hx
  exact b.toNat_lt
theorem length_bytesOf (s : ByteArray) : (bytesOf s).length = s.size := by simp only [bytesOf, List.length_map, Array.length_toList]; rfl
theorem bytesOf_get (s : ByteArray) (i : Nat) (h : i < s.size) (h' : i < (bytesOf s).length) : (bytesOf s)[i] = s[i].toNat := by simp [bytesOf]; rfl
theorem size_strOf (l : List Nat) : (strOf l).size = l.length := by simp [strOf, ByteArray.size]
theorem strOf_bytesOf (s : ByteArray) : strOf (bytesOf s) = s := by
  have h : (s.data.toList.map UInt8.toNat).map UInt8.ofNat = s.data.toList := by
    rw [List.map_map]
    exact (List.map_congr_left (fun x _ => by simp)).trans (List.map_id _)
  unfold strOf bytesOf
  rw [h]
theorem bytesOf_strOf (l : List Nat) (h : ∀ x ∈ l, x < 256) : bytesOf (strOf l) = l := by
  simp only [bytesOf, strOf, List.map_map]
  conv => rhs; rw [← List.map_id l]
  apply List.map_congr_left
  intro x hx
  have := h x hx
  simp only [Function.comp, id, UInt8.toNat_ofNat']
  omega
theorem strOf_append (l r : List Nat) : strOf l ++ strOf r = strOf (l ++ r) := by
  simp [strOf, ByteArray.mk_append_mk]
section
variable {P : Program} (w : World)
theorem run_conv_row (src dst e : TypeId) (hs : P.underlying src = some (.slice e)) (he : P.underlying e = some (.int .u8)) (hd : P.underlying dst = some .string) {v : Value} {n : Nat} {l : List Nat}
    (h : Row w e 1 v n (u8s l)) : (convert src dst v).run P w = .ok (.string (strOf l)) w := by
  have hl : l.length = n := by have := h.len; rw [length_u8s] at this; omega
  rcases h.2 with ⟨rfl, rfl⟩ | ⟨g, cap, cur, rfl, _⟩
  · have : l = [] := List.eq_nil_of_length_eq_zero hl
    subst this
    exact run_convert_bytes_nil w src e hs he 0 0 dst hd
  · have hr := run_convert_bytes_arg w src e hs he g 0 n cap (l.map fun x : Nat => (x : Int)) (by simpa using hl) (fun i hi => by
      have hil : i < l.length := by omega
      rw [Nat.zero_add]
      refine Row.cell h i ?_
      simp [u8s, hil]) dst hd
    rw [hr]
    congr 2
    simp only [strOfNums, strOf, List.map_map]
    congr 2
end
end Go.Proofs.YtdehkaknbmbieaaGreat

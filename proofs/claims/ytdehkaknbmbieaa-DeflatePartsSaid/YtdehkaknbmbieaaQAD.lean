/- Whole arrays and made rows, in the words of Mem: loads and stores of a block that is known whole, an element of an array's value, make. -/
import Derived.Laws.Rows
import Derived.OwnWalk
import Derived.Test.YtdehkaknbmbieaaQAC
import Derived.Laws.BytesArg
import Derived.Laws.BitsAllLaws
namespace Go.Proofs.Ytdehkaknbmbieaa
set_option linter.unusedVariables false
set_option linter.unusedSimpArgs false
set_option linter.unusedSectionVars false
open Go.RowKit

section
variable {P : Program}
theorem wpList_loadBlk {ops : Array Oper} {rest : List Oper} {o : Oper} {a : Act} {w : World} {Q : Exit → Act → World → Prop} (hgd : o.guard = none) (ty : TypeId) (x : Operand) (ho : o.op = .load ty x)
    (b : Nat) (hx : a.eval x = .pointer (some ⟨b, 0, none⟩)) (t : TypeId) (cs : List Value) (hB : Blk w b cs t) (d : TypeDesc)
    (hu : P.underlying ty = some d) (hd : (match d with | .struct _ | .array _ _ => true | _ => false) = true) (hi : (P.info? ty).map (·.size) = some cs.length)
    (h : wpList P ops Q rest (a.put o.dst (.agg cs.toArray)) w) : wpList P ops Q (o :: rest) a w :=
  wpList_load_row hgd ty x ho b hx t cs.toArray (0, 0) d hB hu hd (by simpa using hi) h

theorem run_storeBlk (w : World) (ty t : TypeId) (b : Nat) (cs ds : List Value) (hB : Blk w b cs t) (hi : (P.info? ty).map (·.size) = some cs.length) (hl : ds.length = cs.length) (h1 : ∀ v ∈ ds, v.oneCell' = true) :
    ∃ w', (storeVar ty ⟨b, 0, none⟩ (.agg ds.toArray)).run P w = .ok () w' ∧ Blk w' b ds t ∧ Upd [b] w w' := by
  have hst := run_storeCells_at P b 0 t ds 0 cs.toArray w hB (by simp; omega) h1
  have e : (((cs.toArray.toList.take (0 + 0)) ++ ds ++ cs.toArray.toList.drop (0 + 0 + ds.length)).toArray) = ds.toArray := by
    simp [hl]
  obtain ⟨i, hi1, hi2⟩ := Option.map_eq_some_iff.1 hi
  refine ⟨w.setRow b ds.toArray, ?_, ?_, ?_⟩
  · rw [e] at hst
    simp only [storeVar, Value.cells, sizeOf, typeInfo, Sem.run_bind, Sem.run_pure]
    simp [hi1, hi2, hl]
    simpa using hst
  · exact setRow_heap w b cs.toArray _ t _ hB
  · exact ⟨rfl, rfl, rfl, by simp, fun k _ hk => setRow_other w b k _ (fun e => hk (by simp [e]))⟩

theorem wpList_storeBlk {ops : Array Oper} {rest : List Oper} {o : Oper} {a : Act} {w : World} {Q : Exit → Act → World → Prop} (hgd : o.guard = none) (ty : TypeId) (x y : Operand) (ho : o.op = .store ty x y)
    (b : Nat) (hx : a.eval x = .pointer (some ⟨b, 0, none⟩)) (ds : List Value) (hy : a.eval y = .agg ds.toArray) (t : TypeId) (cs : List Value) (hB : Blk w b cs t)
    (hi : (P.info? ty).map (·.size) = some cs.length) (hl : ds.length = cs.length) (h1 : ∀ v ∈ ds, v.oneCell' = true)
    (h : ∀ w', Blk w' b ds t → Upd [b] w w' → wpList P ops Q rest (a.put o.dst undef) w') : wpList P ops Q (o :: rest) a w := by
  refine wpList_plain hgd fun K hK => ?_
  obtain ⟨w', hr, h2, h3⟩ := run_storeBlk (P := P) w ty t b cs ds hB hi hl h1
  unfold Oper.wp execOp
  simp only [ho, hx, hy, Instr.storeAt, Instr.sureAddr, Sem.run_bind, Sem.run_pure, Result.andThen_ok, hr, Oper.upon]
  exact hK _ _ (h w' h2 h3)

/-- An element of an array's value, a number. -/
theorem run_indexAgg (T e : TypeId) (n : Nat) (hT : P.underlying T = some (.array n e)) (ik : IntKind) (he : P.underlying e = some (.int ik))
    (hs : (P.info? e).map (·.size) = some 1) (cs : List Value) (hl : cs.length = n) (k : IntKind) (i : Nat) (hi : i < n) (w : World) :
    (Instr.index T (.agg cs.toArray) (.int k (i : Int))).run P w = .ok (cs.getD i undef) w := by
  obtain ⟨f, hf1, hf2⟩ := Option.map_eq_some_iff.1 hs
  simp [Instr.index, asIntOf, run_underlying hT, sizeOf, typeInfo, hf1, hf2, hi, part, isAgg, run_underlying he]
  simp [show i < cs.length by omega]

/-- make([]T, n). -/
theorem wpList_mk (w : World) {ops : Array Oper} {rest : List Oper} {o : Oper} {a : Act} {Q : Exit → Act → World → Prop}
    (hg : o.guard = none) (l c : Operand) (t : TypeId) (hop : o.op = Op.makeSlice t l c)
    (e : TypeId) (i : TypeInfo) (z : Value) (h1 : P.underlying t = some (.slice e)) (h2 : P.info? e = some i) (h3 : i.zero = some z) (h4 : i.size = 1) (hz : z.cells = #[z])
    (kl kc : IntKind) (L C : Int) (n : Nat) (hl : a.eval l = .int kl L) (hc : a.eval c = .int kc C) (hL : L = (n : Int)) (hC : C = (n : Int)) (b2 : i.bytes * n ≤ 281474976710656) (b3 : n ≤ maxLen)
    (hK : ∀ w', Row w' e 1 (.slice (some ⟨w.heap.size, 0, none⟩) n n) n (List.replicate n z) → Upd [] w w' → w.heap.size < w'.heap.size → wpList P ops Q rest (a.put o.dst (.slice (some ⟨w.heap.size, 0, none⟩) n n)) w') :
    wpList P ops Q (o :: rest) a w := by
  refine wpList_make_full w hg l c t hop 0 e i z 1 h1 h2 h3 h4 kl kc L C n hl hc hL hC b2 b3 (Nat.zero_le _) ?_
  intro w' r1 r2
  rw [Nat.mul_one, hz, toList_madeCells_one] at r1
  refine hK w' r1 ((Upd.refl _ w).grown r2 (by simp)) ?_
  exact Row.lt r1 _ rfl
end
end Go.Proofs.Ytdehkaknbmbieaa
namespace Go.Proofs.Ytdehkaknbmbieaa
set_option linter.unusedVariables false
set_option linter.unusedSimpArgs false
set_option linter.unusedSectionVars false
open Go.RowKit

/-- Numbers as the cells of bytes; as a string. -/
def u8s (l : List Nat) : List Value := l.map fun x : Nat => .int .u8 (x : Int)
def strOf (l : List Nat) : ByteArray := ⟨(l.map UInt8.ofNat).toArray⟩
def bytesOf (s : ByteArray) : List Nat := s.data.toList.map UInt8.toNat
theorem u8s_snoc (l : List Nat) (x : Nat) : u8s (l ++ [x]) = u8s l ++ [.int .u8 (x : Int)] := by simp [u8s]
theorem u8s_append (l r : List Nat) : u8s (l ++ r) = u8s l ++ u8s r := by simp [u8s]
theorem length_u8s (l : List Nat) : (u8s l).length = l.length := by simp [u8s]
theorem strCells_eq (s : ByteArray) : Lib.strCells s = u8s (bytesOf s) := by simp [Lib.strCells, u8s, bytesOf]
theorem bytesOf_lt (s : ByteArray) : ∀ x ∈ bytesOf s, x < 256 := by
  intro x hx
  simp only [bytesOf, List.mem_map] at hx
  obtain ⟨b, _, rfl⟩ := hx
  exact b.toNat_lt
theorem length_bytesOf (s : ByteArray) : (bytesOf s).length = s.size := by simp only [bytesOf, List.length_map, Array.length_toList]; rfl
theorem bytesOf_get (s : ByteArray) (i : Nat) (h : i < s.size) (h' : i < (bytesOf s).length) : (bytesOf s)[i] = s[i].toNat := by simp [bytesOf]; rfl
theorem size_strOf (l : List Nat) : (strOf l).size = l.length := by simp [strOf, ByteArray.size]
theorem strOf_bytesOf (s : ByteArray) : strOf (bytesOf s) = s := by
  have h : (s.data.toList.map UInt8.toNat).map UInt8.ofNat = s.data.toList := by
    rw [List.map_map]
    exact (List.map_congr_left (fun x _ => by simp)).trans (List.map_id _)
  unfold strOf bytesOf
  rw [h]
theorem bytesOf_strOf (l : List Nat) (h : ∀ x ∈ l, x < 256) : bytesOf (strOf l) = l := by
  simp only [bytesOf, strOf, List.map_map]
  conv => rhs; rw [← List.map_id l]
  apply List.map_congr_left
  intro x hx
  have := h x hx
  simp only [Function.comp, id, UInt8.toNat_ofNat']
  omega
theorem strOf_append (l r : List Nat) : strOf l ++ strOf r = strOf (l ++ r) := by
  simp [strOf, ByteArray.mk_append_mk]
section
variable {P : Program} (w : World)
theorem run_conv_row (src dst e : TypeId) (hs : P.underlying src = some (.slice e)) (he : P.underlying e = some (.int .u8)) (hd : P.underlying dst = some .string) {v : Value} {n : Nat} {l : List Nat}
    (h : Row w e 1 v n (u8s l)) : (convert src dst v).run P w = .ok (.string (strOf l)) w := by
  have hl : l.length = n := by have := h.len; rw [length_u8s] at this; omega
  rcases h.2 with ⟨rfl, rfl⟩ | ⟨g, cap, cur, rfl, _⟩
  · have : l = [] := List.eq_nil_of_length_eq_zero hl
    subst this
    exact run_convert_bytes_nil w src e hs he 0 0 dst hd
  · have hr := run_convert_bytes_arg w src e hs he g 0 n cap (l.map fun x : Nat => (x : Int)) (by simpa using hl) (fun i hi => by
      have hil : i < l.length := by omega
      rw [Nat.zero_add]
      refine Row.cell h i ?_
      simp [u8s, hil]) dst hd
    rw [hr]
    congr 2
    simp only [strOfNums, strOf, List.map_map]
    congr 2
end
end Go.Proofs.Ytdehkaknbmbieaa
namespace Go.Proofs.Ytdehkaknbmbieaa
set_option linter.unusedVariables false
set_option linter.unusedSimpArgs false
set_option linter.unusedSectionVars false

def val : List Bool → Nat
  | [] => 0
  | b :: l => b.toNat + 2 * val l
def low : Nat → Nat → List Bool
  | 0, _ => []
  | k + 1, v => (v % 2 == 1) :: low k (v / 2)

theorem val_lt (l : List Bool) : val l < 2 ^ l.length := by
  induction l with
  | nil => simp [val]
  | cons b l ih => simp only [val, List.length_cons, Nat.pow_succ]; have : b.toNat ≤ 1 := Bool.toNat_le b; omega
theorem val_append (a b : List Bool) : val (a ++ b) = val a + 2 ^ a.length * val b := by
  induction a with
  | nil => simp [val]
  | cons x a ih =>
    simp only [List.cons_append, val, ih, List.length_cons, Nat.pow_succ, Nat.mul_add]
    rw [Nat.mul_comm (2 ^ a.length) 2, Nat.mul_assoc]; omega
theorem length_low (k v : Nat) : (low k v).length = k := by
  induction k generalizing v with
  | zero => rfl
  | succ k ih => simp [low, ih]
theorem val_low (k v : Nat) : val (low k v) = v % 2 ^ k := by
  induction k generalizing v with
  | zero => simp [low, val, Nat.mod_one]
  | succ k ih =>
    simp only [low, val, ih]
    have h1 : (v % 2 == 1).toNat = v % 2 := by
      rcases Nat.mod_two_eq_zero_or_one v with h | h <;> simp [h]
    have h2 : v % 2 ^ (k + 1) = v % 2 + 2 * (v / 2 % 2 ^ k) := by
      rw [Nat.pow_succ, Nat.mul_comm, Nat.mod_mul]
    omega
theorem val_take (l : List Bool) (k : Nat) (h : k ≤ l.length) : val (l.take k) = val l % 2 ^ k := by
  have h1 := val_append (l.take k) (l.drop k)
  rw [List.take_append_drop] at h1
  have h2 := val_lt (l.take k)
  rw [List.length_take, Nat.min_eq_left h] at h1 h2
  rw [h1, Nat.add_mul_mod_self_left, Nat.mod_eq_of_lt h2]
theorem val_drop (l : List Bool) (k : Nat) (h : k ≤ l.length) : val (l.drop k) = val l / 2 ^ k := by
  have h1 := val_append (l.take k) (l.drop k)
  rw [List.take_append_drop] at h1
  have h2 := val_lt (l.take k)
  rw [List.length_take, Nat.min_eq_left h] at h1 h2
  rw [h1, Nat.add_mul_div_left _ _ (Nat.two_pow_pos k), Nat.div_eq_of_lt h2, Nat.zero_add]
/-- Byte number i of bits; the first m bytes; what is left behind them, as a number. -/
def chunk (L : List Bool) (i : Nat) : Nat := val ((L.drop (8 * i)).take 8)
def outs (L : List Bool) (m : Nat) : List Nat := (List.range m).map (chunk L)
def rest (L : List Bool) (m : Nat) : Nat := val (L.drop (8 * m))
def pack (L : List Bool) : List Nat := outs L ((L.length + 7) / 8)

theorem length_outs (L : List Bool) (m : Nat) : (outs L m).length = m := by simp [outs]
theorem outs_succ (L : List Bool) (m : Nat) : outs L (m + 1) = outs L m ++ [chunk L m] := by simp [outs, List.range_succ]
theorem chunk_append (L R : List Bool) (i : Nat) (h : 8 * (i + 1) ≤ L.length) : chunk (L ++ R) i = chunk L i := by
  unfold chunk
  rw [List.drop_append_of_le_length (by omega), List.take_append_of_le_length (by simp; omega)]
theorem outs_append (L R : List Bool) (m : Nat) (h : 8 * m ≤ L.length) : outs (L ++ R) m = outs L m := by
  unfold outs
  apply List.map_congr_left
  intro i hi
  rw [List.mem_range] at hi
  exact chunk_append L R i (by omega)
theorem rest_append (L R : List Bool) (m : Nat) (h : 8 * m ≤ L.length) : rest (L ++ R) m = rest L m + 2 ^ (L.length - 8 * m) * val R := by
  unfold rest
  rw [List.drop_append_of_le_length h, val_append, List.length_drop]
theorem rest_lt (L : List Bool) (m : Nat) : rest L m < 2 ^ (L.length - 8 * m) := by
  have h := val_lt (L.drop (8 * m))
  rwa [List.length_drop] at h
theorem chunk_rest (L : List Bool) (m : Nat) (h : 8 * (m + 1) ≤ L.length) : chunk L m = rest L m % 256 := by
  unfold chunk rest
  rw [val_take _ _ (by simp; omega)]
theorem rest_succ (L : List Bool) (m : Nat) (h : 8 * (m + 1) ≤ L.length) : rest L (m + 1) = rest L m / 256 := by
  unfold rest
  rw [show 8 * (m + 1) = 8 * m + 8 by omega, ← List.drop_drop, val_drop _ _ (by simp; omega)]
theorem chunk_last (L : List Bool) (m : Nat) (h : L.length ≤ 8 * (m + 1)) : chunk L m = rest L m := by
  unfold chunk rest
  rw [List.take_of_length_le (by simp; omega)]
theorem rest_nil (L : List Bool) (m : Nat) (h : L.length ≤ 8 * m) : rest L m = 0 := by
  unfold rest
  rw [List.drop_eq_nil_of_le h]; rfl

/-- The step of Bits: the number of the bits behind the whole bytes. -/
theorem or_step (p X K n : Nat) (hp : p < 2 ^ n) : p ||| (X &&& (2 ^ K - 1)) * 2 ^ n = p + 2 ^ n * (X % 2 ^ K) := by
  rw [Nat.and_two_pow_sub_one_eq_mod, Nat.or_comm, nat_join' _ _ _ hp]
where
  nat_join' (y p n : Nat) (hp : p < 2 ^ n) : y * 2 ^ n ||| p = p + 2 ^ n * y := by
    rw [nat_join n (y * 2 ^ n) p (Nat.mul_mod_left _ _) hp, Nat.mul_comm, Nat.add_comm]

/-- Up to a byte's end. -/
def alignL (L : List Bool) : List Bool := L ++ List.replicate ((8 - L.length % 8) % 8) false
theorem length_alignL (L : List Bool) : (alignL L).length = 8 * ((L.length + 7) / 8) := by
  simp only [alignL, List.length_append, List.length_replicate]; omega
theorem low_zero (k : Nat) : low k 0 = List.replicate k false := by
  induction k with
  | zero => rfl
  | succ k ih => simp [low, ih, List.replicate_succ]
theorem alignL_of (L : List Bool) (h : L.length % 8 = 0) : alignL L = L := by
  unfold alignL; rw [h]; simp

/-- The bits of bytes. -/
def textBits (s : List Nat) : List Bool := s.flatMap (low 8)
theorem length_textBits (s : List Nat) : (textBits s).length = 8 * s.length := by
  induction s with
  | nil => rfl
  | cons x s ih => simp only [textBits, List.flatMap_cons, List.length_append, length_low, List.length_cons] at *; omega
theorem outs_text (L : List Bool) (m : Nat) (h : L.length = 8 * m) (s : List Nat) (hs : ∀ x ∈ s, x < 256) : outs (L ++ textBits s) (m + s.length) = outs L m ++ s := by
  induction s generalizing L m with
  | nil => simp [textBits]
  | cons x s ih =>
    have h1 : L ++ textBits (x :: s) = (L ++ low 8 x) ++ textBits s := by simp [textBits]
    rw [h1, List.length_cons, show m + (s.length + 1) = (m + 1) + s.length by omega,
      ih (L ++ low 8 x) (m + 1) (by simp [length_low]; omega) (fun y hy => hs y (by simp [hy])), outs_succ,
      outs_append _ _ _ (by omega)]
    have h2 : chunk (L ++ low 8 x) m = x := by
      unfold chunk
      rw [List.drop_append_of_le_length (by omega), List.drop_eq_nil_of_le (by omega), List.nil_append, List.take_of_length_le (by simp [length_low]), val_low]
      exact Nat.mod_eq_of_lt (by have := hs x (by simp); omega)
    rw [h2]; simp
end Go.Proofs.Ytdehkaknbmbieaa

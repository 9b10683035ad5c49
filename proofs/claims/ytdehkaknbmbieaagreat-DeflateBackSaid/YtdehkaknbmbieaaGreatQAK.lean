/- Tokens (plain), and what they expand to. -/
import Derived.Test.YtdehkaknbmbieaaGreatQAJ
import Derived.Deep.QuietTactic
import Derived.BigQuiet
import Derived.BigRegion
import Derived.WideKeyPair
import Derived.DeepKeys4
import Derived.Test.YtdehkaknbmbieaaGreatQAA
import Derived.Test.YtdehkaknbmbieaaGreatQAD
import Derived.Test.YtdehkaknbmbieaaGreatQAC
namespace Go.Proofs.YtdehkaknbmbieaaGreat
set_option linter.unusedVariables false
set_option linter.unusedSimpArgs false
set_option linter.unusedSectionVars false
open Go.RowKit
set_option linter.unusedVariables false

/-- A token. -/
structure Tok where
  byte : Nat
  long : Int
  back : Int
def Tok.cs (t : Tok) : List Value := [.int .u8 (t.byte : Nat), .int .i64 t.long, .int .i64 t.back]
/-- Tokens that can be read where a slice leads. -/
structure TokIn (w : World) (a : Option Addr) (len : Nat) (l : List Tok) : Prop where
  len : l.length = len
  cell : ∀ i (h : i < l.length), ∃ b off, a = some ⟨b, off, none⟩ ∧ (w.cell? ⟨b, off + i * 3, none⟩ = some (.int .u8 (l[i].byte : Nat)) ∧ w.cell? ⟨b, off + i * 3 + 1, none⟩ = some (.int .i64 l[i].long) ∧ w.cell? ⟨b, off + i * 3 + 2, none⟩ = some (.int .i64 l[i].back)) ∧
    l[i].byte < 256 ∧ (-9223372036854775808 ≤ l[i].long ∧ l[i].long ≤ 9223372036854775807) ∧ (-9223372036854775808 ≤ l[i].back ∧ l[i].back ≤ 9223372036854775807)
theorem TokIn.upd {w w' : World} {a : Option Addr} {len : Nat} {l : List Tok} {fp : List Nat} (h : TokIn w a len l) (hU : Upd fp w w') (hf : ∀ b off, a = some ⟨b, off, none⟩ → b ∉ fp) : TokIn w' a len l :=
  ⟨h.len, fun i hi => by
    obtain ⟨b, off, e, ⟨c1, c2, c3⟩, r⟩ := h.cell i hi
    have hb : b < w.heap.size := World.block_lt_of_cell? w _ c1
    exact ⟨b, off, e, ⟨(hU.at hb (hf b off e) _).trans c1, (hU.at hb (hf b off e) _).trans c2, (hU.at hb (hf b off e) _).trans c3⟩, r⟩⟩
theorem TokIn.pure {w w' : World} {a : Option Addr} {len : Nat} {l : List Tok} (h : TokIn w a len l) (hU : Upd [] w w') : TokIn w' a len l := h.upd hU (by simp)
/-- So many bytes more, each from so far back. -/
def copyN (s : List Nat) (back : Nat) : Nat → List Nat
  | 0 => s
  | k + 1 => copyN s back k ++ [(copyN s back k).getD ((copyN s back k).length - back) 0]
theorem copyN_succ (s : List Nat) (back k : Nat) : copyN s back (k + 1) = copyN s back k ++ [(copyN s back k).getD ((copyN s back k).length - back) 0] := by rw [copyN]
theorem copyN_len (s : List Nat) (back : Nat) : ∀ k, (copyN s back k).length = s.length + k
  | 0 => rfl
  | k + 1 => by rw [copyN_succ, List.length_append, copyN_len s back k]; rfl
/-- May a copy not be, behind so many bytes? -/
def badCopy (t : Tok) (n : Nat) : Prop := t.byte ≠ 0 ∨ t.long < 3 ∨ 258 < t.long ∨ t.back < 1 ∨ 32768 < t.back ∨ (n : Int) < t.back ∨ 65000 < t.long + (n : Int)
instance (t : Tok) (n : Nat) : Decidable (badCopy t n) := by unfold badCopy; infer_instance
/-- What tokens expand to. -/
def expTo : List Tok → List Nat → Option (List Nat)
  | [], s => some s
  | t :: r, s => if t.long = 0 then (if t.back ≠ 0 ∨ 65000 ≤ s.length then none else expTo r (s ++ [t.byte])) else if badCopy t s.length then none else expTo r (copyN s t.back.toNat t.long.toNat)
theorem expTo_cons (t : Tok) (r : List Tok) (s : List Nat) : expTo (t :: r) s = if t.long = 0 then (if t.back ≠ 0 ∨ 65000 ≤ s.length then none else expTo r (s ++ [t.byte])) else if badCopy t s.length then none else expTo r (copyN s t.back.toNat t.long.toNat) := rfl
/-- A token that may be. -/
def okTok (t : Tok) : Prop := (t.long = 0 ∧ t.back = 0 ∧ t.byte < 256) ∨ (t.byte = 0 ∧ 3 ≤ t.long ∧ t.long ≤ 258 ∧ 1 ≤ t.back ∧ t.back ≤ 32768)
end Go.Proofs.YtdehkaknbmbieaaGreat
namespace Go.Proofs.YtdehkaknbmbieaaGreat
set_option linter.unusedVariables false
set_option linter.unusedSimpArgs false
set_option linter.unusedSectionVars false
open Go.RowKit
attribute [local go_sem] Oper.semAt_some
set_option linter.unusedVariables false
set_option linter.unusedSimpArgs false

/-- Three bytes of a text. -/
def key3 (S : ByteArray) (i : Nat) (h : i + 3 ≤ S.size) : Value := .agg #[.int .u8 (S[i].toNat : Nat), .int .u8 (S[i + 1].toNat : Nat), .int .u8 (S[i + 2].toNat : Nat)]
theorem results_three {fn : Func} {p : Tmp} (h : fn.results = #[.cell p 147]) (tmps : Array Value) (w : World) (g : Nat) (x y z : Value) (hp : tmps.getD p undef = .pointer (some ⟨g, 0, none⟩)) (hB : Blk w g [x, y, z] 147) :
    (results fn tmps).run Tryz.prog w = .ok (.agg #[x, y, z]) w := by
  have hc0 := hB.cell 0 rfl
  have hc1 := hB.cell 1 rfl
  have hc2 := hB.cell 2 rfl
  have hp2 : tmps[p]?.getD undef = .pointer (some ⟨g, 0, none⟩) := by rw [← hp]; simp
  simp [results, h, go_sem, hp2, hc0, hc1, hc2]
set_option maxRecDepth 100000 in
set_option maxHeartbeats 3200000 in
theorem lzkey_any (S : ByteArray) (i fb : Nat) (x1 x2 x3 : Value) (w : World) (hs : S.size ≤ 65000) (hi : i + 3 ≤ S.size) (hF : Blk w fb [.string S, x1, x2, x3] 119) :
    Calls Tryz.prog 104 #[.pointer (some ⟨fb, 0, none⟩), .int .i64 (i : Nat)] w fun e w' => e = .returned (key3 S i hi) ∧ Upd [] w w' := by
  have HF := Lib.hid hF
  have hlt := hF.lt
  have HK : Hid (key3 S i hi = .agg #[.int .u8 (S[i].toNat : Nat), .int .u8 (S[i + 1].toNat : Nat), .int .u8 (S[i + 2].toNat : Nat)]) := Lib.hid rfl
  obtain ⟨p, hp⟩ : ∃ p, i + 1 = p := ⟨_, rfl⟩
  obtain ⟨q, hq⟩ : ∃ q, i + 2 = q := ⟨_, rfl⟩
  have hpw : IntKind.i64.wrap ((i : Int) + 1) = (p : Int) := by rw [IntWalk.i64_in _ (by omega)]; omega
  have hqw : IntKind.i64.wrap ((i : Int) + 2) = (q : Int) := by rw [IntWalk.i64_in _ (by omega)]; omega
  have hps : p < S.size := by omega
  have hqs : q < S.size := by omega
  have his : i < S.size := by omega
  have hpz : (p : Int) < (S.size : Int) := by omega
  have hqz : (q : Int) < (S.size : Int) := by omega
  have hiz : (i : Int) < (S.size : Int) := by omega
  have HK2 : Hid (key3 S i hi = .agg #[.int .u8 (S[i].toNat : Nat), .int .u8 (S[p].toNat : Nat), .int .u8 (S[q].toNat : Nat)]) := Lib.hid (by subst hp; subst hq; exact HK.out)
  clear HK hp hq
  generalize key3 S i hi = KV at *
  go_enter Tryz.func104, Tryz.ntmps104
  go_upto_region 1 with fail
  have HB := Lib.hid (Blk.new w [.int .u8 0, .int .u8 0, .int .u8 0] 147)
  have HU := Lib.hid ((Upd.refl [] w).alloc (.cells #[.int .u8 0, .int .u8 0, .int .u8 0] 147))
  have HF1 := Lib.hid (HF.out.alloc (.cells #[.int .u8 0, .int .u8 0, .int .u8 0] 147))
  generalize w.alloc (.cells #[.int .u8 0, .int .u8 0, .int .u8 0] 147) = w1 at *
  obtain ⟨B, hB⟩ : ∃ B, w.heap.size = B := ⟨_, rfl⟩
  rw [hB] at HB ⊢
  have hBw : w.heap.size ≤ B := by omega
  have c0 := HF1.out.cell 0 rfl
  have b0 := HB.out.cell 0 rfl
  have b1 := HB.out.cell 1 rfl
  have b2 := HB.out.cell 2 rfl
  have f0 := HB.out.frz 0
  have f1 := HB.out.frz 1
  have f2 := HB.out.frz 2
  clear hF hlt hB HF
  go_region
  generalize (.int .u8 (S[i].toNat : Nat) : Value) = X at *
  generalize (.int .u8 (S[p].toNat : Nat) : Value) = Y at *
  generalize (.int .u8 (S[q].toNat : Nat) : Value) = Z at *
  have hB9 : Blk (((w1.setCell ⟨B, 0, none⟩ X).setCell ⟨B, 1, none⟩ Y).setCell ⟨B, 2, none⟩ Z).drew B [X, Y, Z] 147 := Blk.drew (((HB.out.set 0 X).set 1 Y).set 2 Z)
  have hU9 : Upd [] w (((w1.setCell ⟨B, 0, none⟩ X).setCell ⟨B, 1, none⟩ Y).setCell ⟨B, 2, none⟩ Z).drew := (((HU.out.setCell (.inr hBw) X).setCell (.inr hBw) Y).setCell (.inr hBw) Z).drew
  generalize (((w1.setCell ⟨B, 0, none⟩ X).setCell ⟨B, 1, none⟩ Y).setCell ⟨B, 2, none⟩ Z).drew = w9 at *
  have HU9 := Lib.hid hU9
  clear hU9 HB HU HF1
  go_wp2
  refine bodyPost_ret (results_three rfl _ _ B X Y Z rfl hB9) rfl ?_
  exact ⟨by rw [HK2.out], HU9.out⟩
end Go.Proofs.YtdehkaknbmbieaaGreat
namespace Go.Proofs.YtdehkaknbmbieaaGreat
set_option linter.unusedVariables false
set_option linter.unusedSimpArgs false
set_option linter.unusedSectionVars false
open Go.RowKit Go.Maps Go.WideMaps

theorem zeroI (w : World) : (zeroValue 3).run Tryz.prog w = .ok (.int .i64 0) w := by kernel_rfl
theorem three_laid : laidOutB Tryz.prog = true := by kernel_rfl
theorem three_arr : ArrKey Tryz.prog 147 5 3 := ⟨Tryz.underlying147, by kernel_rfl, by kernel_rfl, by kernel_rfl⟩
theorem three_keyed : Keyed Tryz.prog 147 := Keyed.of_law (deep_law_laid three_laid (m := 2) (by omega) (of_decide_eq_true (by kernel_rfl)) (by kernel_rfl) (by kernel_rfl))
theorem keyOf_three {P : Program} {k e : TypeId} {q : IntKind} (A : ArrKey P k e 3) (he : P.underlying e = some (.int q)) (hsz : ∃ m, P.types.size = m + 1) {a b c : Int} (wa : (Lit.int q a).wf = true) (wb : (Lit.int q b).wf = true) (wc : (Lit.int q c).wf = true) :
    keyOf P k (.agg #[.int q a, .int q b, .int q c]) = some (.string (keyBytes [.int q a, .int q b, .int q c])) := by
  have hkt := A.keyType hsz
  obtain ⟨m, hm⟩ := hsz
  unfold keyOf
  simp only [A.hu]
  rw [if_pos (by simp [hkt, Value.formed, A.hu, A.size]), hm]
  unfold Program.keyLits
  simp only [A.hu, Value.cells]
  rw [if_pos (by rw [A.size]; rfl), show List.range 3 = [0, 1, 2] from rfl, List.mapM_cons, List.mapM_cons, List.mapM_cons, List.mapM_nil]
  simp [A.one, Program.keyLits, he, wa, wb, wc]
theorem key3_lit (S : ByteArray) (i : Nat) (h : i + 3 ≤ S.size) : ∃ kl, keyOf Tryz.prog 147 (key3 S i h) = some kl :=
  ⟨_, keyOf_three three_arr Tryz.underlying5 ⟨Tryz.prog.types.size - 1, by kernel_rfl⟩ (by have := S[i].toNat_lt; simp [Lit.wf, IntKind.min, IntKind.max, IntKind.signed, IntKind.bits]; omega) (by have := S[i + 1].toNat_lt; simp [Lit.wf, IntKind.min, IntKind.max, IntKind.signed, IntKind.bits]; omega) (by have := S[i + 2].toNat_lt; simp [Lit.wf, IntKind.min, IntKind.max, IntKind.signed, IntKind.bits]; omega)⟩
variable {P : Program} {k e t : TypeId}
/-- A map of at most n entries whose values are less than m. -/
def MapLt (P : Program) (k e : TypeId) (w : World) (b n m : Nat) : Prop :=
  ∃ D : DataW Unit, w.ownsMap P k (plainElem P e) b n D ∧ ∀ kl z, D.atKey kl z = z ∨ ∃ p : Nat, p < m ∧ D.atKey kl z = .lit (.int .i64 (p : Nat))
theorem MapLt.new (w : World) (m : Nat) : MapLt P k e (w.alloc (.map #[] 0)) w.heap.size 0 m :=
  ⟨.map [], World.ownsMap_made _ _ _ _, fun kl z => .inl rfl⟩
theorem MapLt.upd {w w' : World} {b n m : Nat} {fp : List Nat} (h : MapLt P k e w b n m) (hu : Upd fp w w') (hn : b ∉ fp) : MapLt P k e w' b n m := by
  obtain ⟨D, h1, h2⟩ := h
  exact ⟨D, ownsMap_upd h1 hu hn, h2⟩
theorem MapLt.mono {w : World} {b n m m' : Nat} (h : MapLt P k e w b n m) (hm : m ≤ m') : MapLt P k e w b n m' := by
  obtain ⟨D, h1, h2⟩ := h
  exact ⟨D, h1, fun kl z => (h2 kl z).imp_right fun ⟨p, hp, e⟩ => ⟨p, by omega, e⟩⟩
theorem MapLt.lt {w : World} {b n m : Nat} (h : MapLt P k e w b n m) : b < w.heap.size := by obtain ⟨D, h1, _⟩ := h; exact h1.lt
/-- A look-up with 'ok'. -/
theorem MapLt.look {w : World} {b n m : Nat} (h : MapLt P k e w b n m) (K : Keyed P k) (ht : P.underlying t = some (.map k e)) (he : P.underlying e = some (.int .i64)) (hz : (zeroValue e).run P w = .ok (.int .i64 0) w) {key : Value} {kl : Lit} (hkey : keyOf P k key = some kl) :
    (Instr.lookup t (.map (some b)) key true).run P w = .ok (.tuple #[.int .i64 0, .bool false]) w ∨ ∃ p : Nat, p < m ∧ (Instr.lookup t (.map (some b)) key true).run P w = .ok (.tuple #[.int .i64 (p : Nat), .bool true]) w := by
  obtain ⟨D, ⟨es, clock, hb, F, _, rfl⟩, h2⟩ := h
  rcases Maps.fit_look true K ht hz hb F hkey with ⟨hrun, _, _⟩ | ⟨e0, y, _, _, hrun, hR, hat, _⟩
  · exact .inl (by rw [hrun]; rfl)
  · right
    obtain ⟨a, hv, hy, _⟩ := plainElem_int_inv he hR
    rcases h2 kl .nil with e1 | ⟨p, hp, e1⟩
    · rw [hat, hy] at e1
      cases e1
    · rw [hat, hy] at e1
      simp only [DataW.lit.injEq, Lit.int.injEq, true_and] at e1
      exact ⟨p, hp, by rw [hrun, hv, e1]; rfl⟩
/-- A store. -/
theorem MapLt.store {w : World} {b n m : Nat} (h : MapLt P k e w b n m) (K : Keyed P k) (ht : P.underlying t = some (.map k e)) (he : P.underlying e = some (.int .i64)) {key : Value} {kl : Lit} (hkey : keyOf P k key = some kl) (hn : n < maxLen) (v : Nat) (hvm : v < m) (hv : v ≤ 9223372036854775807) :
    ∃ w', (Instr.mapUpdate t (.map (some b)) key (.int .i64 (v : Nat))).run P w = .ok () w' ∧ MapLt P k e w' b (n + 1) m ∧ Upd [b] w w' := by
  obtain ⟨D, h1, h2⟩ := h
  have hw : (Lit.int .i64 (v : Nat)).wf = true := by simp [Lit.wf, IntKind.min, IntKind.max, IntKind.signed, IntKind.bits]; omega
  obtain ⟨w', hr, h3, h4⟩ := h1.update K ht hn hkey (plainElem_int he hw)
  refine ⟨w', hr, ⟨_, h3, fun kl' z => ?_⟩, (Upd.refl _ w).grown h4 (fun j hj => .inl (by simp at hj; simp [hj]))⟩
  by_cases hp : kl' = kl
  · subst hp
    exact .inr ⟨v, hvm, by rw [atKey_put_same (h1.tidy K).isMap (K.key hkey)]⟩
  · rw [atKey_put_other hp]
    exact h2 kl' z
end Go.Proofs.YtdehkaknbmbieaaGreat
namespace Go.Proofs.YtdehkaknbmbieaaGreat
set_option linter.unusedVariables false
set_option linter.unusedSimpArgs false
set_option linter.unusedSectionVars false
open Go.RowKit
attribute [local go_sem] Oper.semAt_some
set_option linter.unusedVariables false
set_option linter.unusedSimpArgs false

def zvs (l : List Int) : List Value := l.map fun x => .int .i64 x
theorem zvs_snoc (l : List Int) (x : Int) : zvs (l ++ [x]) = zvs l ++ [.int .i64 x] := by simp [zvs]
/-- A finder that has seen m places, but for its map. -/
def FinR (w : World) (fb mb : Nat) (S : ByteArray) (v : Value) (m : Nat) (D : Int) : Prop :=
  Blk w fb [.string S, .map (some mb), v, .int .i64 D] 119 ∧
  (∃ xs : List Int, xs.length = m ∧ (∀ x ∈ xs, -1 ≤ x ∧ x < m) ∧ Row w 3 1 v m (zvs xs)) ∧ fb ≠ mb ∧ v.ownBlock ≠ some fb ∧ v.ownBlock ≠ some mb
/-- Its map. -/
def FinM (w : World) (mb n m : Nat) : Prop := MapLt Tryz.prog 147 3 w mb n m
def FinAt (w : World) (fb mb : Nat) (S : ByteArray) (v : Value) (m : Nat) (D : Int) : Prop := FinR w fb mb S v m D ∧ ∃ n, n ≤ m ∧ FinM w mb n m
theorem FinR.upd {w w' : World} {fb mb : Nat} {S : ByteArray} {v : Value} {m : Nat} {D : Int} {fp : List Nat} (h : FinR w fb mb S v m D) (hu : Upd fp w w') (h1 : fb ∉ fp) (h3 : ∀ k, v.ownBlock = some k → k ∉ fp) : FinR w' fb mb S v m D := by
  obtain ⟨a, ⟨xs, c1, c2, c3⟩, d⟩ := h
  exact ⟨a.upd hu h1, ⟨xs, c1, c2, c3.upd hu h3⟩, d⟩
theorem FinAt.upd {w w' : World} {fb mb : Nat} {S : ByteArray} {v : Value} {m : Nat} {D : Int} {fp : List Nat} (h : FinAt w fb mb S v m D) (hu : Upd fp w w') (h1 : fb ∉ fp) (h2 : mb ∉ fp) (h3 : ∀ k, v.ownBlock = some k → k ∉ fp) : FinAt w' fb mb S v m D := by
  obtain ⟨a, n, hn, b⟩ := h
  exact ⟨a.upd hu h1 h3, n, hn, b.upd hu h2⟩
theorem FinAt.pure {w w' : World} {fb mb : Nat} {S : ByteArray} {v : Value} {m : Nat} {D : Int} (h : FinAt w fb mb S v m D) (hu : Upd [] w w') : FinAt w' fb mb S v m D := h.upd hu (by simp) (by simp) (by simp)
theorem fin_app {w wa w5 : World} {fb mb m n : Nat} {S : ByteArray} {v v5 : Value} {D x : Int} {xs : List Int} (hB : Blk w fb [.string S, .map (some mb), v, .int .i64 D] 119) (hM : FinM w mb n m) (hxl : xs.length = m) (hxb : ∀ x ∈ xs, -1 ≤ x ∧ x < m)
    (ho : fb ≠ mb ∧ v.ownBlock ≠ some fb ∧ v.ownBlock ≠ some mb) (hA : Upd [] w wa) (hx : -1 ≤ x ∧ x < m) (hR5 : Row w5 3 1 v5 (m + 1) (zvs xs ++ [.int .i64 x])) (hU5 : Upd v.ownBlock.toList wa w5) (hT5 : Later wa v v5) :
    FinR (w5.setCell ⟨fb, 2, none⟩ v5) fb mb S v5 (m + 1) D ∧ FinM (w5.setCell ⟨fb, 2, none⟩ v5) mb n m ∧ Upd (fb :: mb :: v.ownBlock.toList) w (w5.setCell ⟨fb, 2, none⟩ v5) ∧ Later w v v5 ∧ w.heap.size ≤ w5.heap.size := by
  obtain ⟨o1, o2, o3⟩ := ho
  have hfl := hB.lt
  have hml : mb < w.heap.size := hM.lt
  have hws := hA.size
  have h5 : Upd v.ownBlock.toList w w5 := (hA.mono (fun k hk => by simp at hk)).then hU5
  have nf : v5.ownBlock ≠ some fb := by
    rcases hT5 with e | ⟨g, e, hg⟩
    · rw [e]; exact o2
    · rw [e]; intro hh; cases hh; omega
  have nm : v5.ownBlock ≠ some mb := by
    rcases hT5 with e | ⟨g, e, hg⟩
    · rw [e]; exact o3
    · rw [e]; intro hh; cases hh; omega
  refine ⟨⟨?_, ⟨xs ++ [x], by simp [hxl], fun y hy => ?_, ?_⟩, o1, nf, nm⟩, ?_, ?_, ?_, h5.size⟩
  · exact (hB.upd h5 (by simpa using o2)).set 2 v5
  · rcases List.mem_append.1 hy with h | h
    · have := hxb y h; omega
    · simp at h; subst h; omega
  · rw [zvs_snoc]
    exact hR5.setFar v5 nf
  · exact (hM.upd h5 (by simpa using o3)).upd ((Upd.refl [fb] w5).setCell (p := ⟨fb, 2, none⟩) (.inl (by simp)) v5) (by simpa using o1.symm)
  · exact (h5.mono (fun k hk => .inl (by simp [hk]))).setCell (.inl (by simp)) v5
  · rcases hT5 with e | ⟨g, e, hg⟩
    · exact .inl e
    · exact .inr ⟨g, e, by omega⟩
/-- What put gives. -/
def PutP (w : World) (fb mb : Nat) (S : ByteArray) (v : Value) (m : Nat) (D : Int) (e : Ending) (w' : World) : Prop :=
  e = .returned (.tuple #[]) ∧ ∃ v', FinAt w' fb mb S v' (m + 1) D ∧ Upd (fb :: mb :: v.ownBlock.toList) w w' ∧ Later w v v'
set_option maxRecDepth 100000 in
set_option maxHeartbeats 6400000 in
theorem lzput_any (S : ByteArray) (fb mb : Nat) (v : Value) (m : Nat) (D : Int) (w : World) (hs : S.size ≤ 65000) (hm : m < S.size) (hF : FinAt w fb mb S v m D) :
    Calls Tryz.prog 76 #[.pointer (some ⟨fb, 0, none⟩), .int .i64 (m : Nat)] w fun e w' => PutP w fb mb S v m D e w' := by
  obtain ⟨i0, hi, jz0, jz1, jz2⟩ := info_parts infoInt
  obtain ⟨⟨hB, ⟨xs, hxl, hxb, hR⟩, hne, ho1, ho2⟩, nm, hnm, hM⟩ := hF
  obtain ⟨va, vc, rfl⟩ := hR.form
  have HB := Lib.hid hB
  have HM := Lib.hid hM
  have HR := Lib.hid hR
  have HX := Lib.hid hxb
  have HXL := Lib.hid hxl
  have HO := Lib.hid (And.intro hne (And.intro ho1 ho2))
  have hfw := hB.lt
  have c0 := hB.cell 0 rfl
  have c2 := hB.cell 2 rfl
  have f2 := hB.frz 2
  have hmw : IntKind.i64.wrap ((m : Int) + 3) = (m : Int) + 3 := by rw [IntWalk.i64_in _ (by omega)]
  clear hB hM hR hxb hxl hne ho1 ho2
  go_enter Tryz.func76, Tryz.ntmps76
  by_cases h3 : S.size < m + 3
  · have h3z : (S.size : Int) < (m : Int) + 3 := by omega
    have hRz := HR.out.alloc (.cells #[(.int .i64 (-1) : Value)] 3)
    have HNW : Hid (∀ j u, ([(.int .i64 (-1) : Value)] : List Value)[j]? = some u → (w.alloc (.cells #[(.int .i64 (-1) : Value)] 3)).cell? ((⟨w.heap.size, 0, none⟩ : Addr).add j) = some u) := Lib.hid (World.news_of_block (cs := #[(.int .i64 (-1) : Value)]) (t := 3) (fr := (0, 0)) (heap_alloc_new _ _))
    have HST : Hid (∀ v ∈ ([(.int .i64 (-1) : Value)] : List Value), v.oneCell' = true) := Lib.hid (by simp [Value.oneCell'])
    go_wp2_with (at_builtin; refine wpList_app _ rfl _ _ 55 rfl 3 i0 _ 1 8 Tryz.underlying55 hi jz0 jz1 jz2 rfl (by omega) (.slice va m vc) m _ rfl hRz ⟨w.heap.size, 0, none⟩ 1 1 [(.int .i64 (-1) : Value)] rfl rfl HNW.out HST.out (by unfold maxLen; omega) (by omega) ?_)
    intro v5 w5 hR5 hU5 hT5
    obtain ⟨v5a, v5c, rfl⟩ := hR5.form
    obtain ⟨p1, p2, p3, p4, p5⟩ := fin_app (x := -1) HB.out HM.out HXL.out HX.out HO.out ((Upd.refl [] w).alloc (.cells #[(.int .i64 (-1) : Value)] 3)) (by omega) hR5 hU5 hT5
    have HP := Lib.hid (show PutP w fb mb S (.slice va m vc) m D (.returned (.tuple #[])) (w5.setCell ⟨fb, 2, none⟩ (.slice v5a (m + 1) v5c)) from ⟨rfl, _, ⟨p1, nm, by omega, p2.mono (by omega)⟩, p3, p4⟩)
    have hB5 := HB.out.upd ((Upd.refl [] w).alloc (.cells #[(.int .i64 (-1) : Value)] 3)) (by simp)
    have hB6 := hB5.upd hU5 (by simpa using HO.out.2.1)
    have k2 := hB6.cell 2 rfl
    have g2 := hB6.frz 2
    clear p1 p2 p3 p4 p5 hR5 hU5 hT5 hRz HNW HST hB5 hB6 c2 f2
    go_wp2

    go_returns
    exact HP.out
  · have h3z : ¬ (S.size : Int) < (m : Int) + 3 := by omega
    have h3m : m + 3 ≤ S.size := by omega
    have HKY := Lib.hid (lzkey_any S m fb _ _ _ w hs h3m HB.out)
    obtain ⟨kl, hkl⟩ := key3_lit S m h3m
    obtain ⟨X, Y, Z, hkv⟩ : ∃ X Y Z : Int, key3 S m h3m = .agg #[.int .u8 X, .int .u8 Y, .int .u8 Z] := ⟨_, _, _, rfl⟩
    rw [hkv] at HKY hkl
    have HKL := Lib.hid hkl
    have HFW : Hid (fb < w.heap.size ∧ mb < w.heap.size ∧ ∀ k, (Value.slice va m vc).ownBlock = some k → k < w.heap.size) := Lib.hid ⟨hfw, HM.out.lt, HR.out.lt⟩
    clear hkl hkv c2 f2
    go_wp2_with fail
    refine HKY.out.mono ?_
    rintro e w2 ⟨rfl, hU2⟩
    have HB2 := Lib.hid (HB.out.upd hU2 (by simp))
    have HM2 := Lib.hid (show FinM w2 mb nm m from HM.out.upd hU2 (by simp))
    have HR2 := Lib.hid (HR.out.upd hU2 (by simp))
    have HU2 := Lib.hid hU2
    clear hU2 HKY HB HM HR c0
    go_upto_region 3 with fail
    have HK3 := Lib.hid (Blk.new w2 [.int .u8 X, .int .u8 Y, .int .u8 Z] 147)
    have hA3 : Upd [] w2 (w2.alloc (.cells #[.int .u8 X, .int .u8 Y, .int .u8 Z] 147)) := (Upd.refl [] w2).alloc _
    have HB3 := Lib.hid (HB2.out.upd hA3 (by simp))
    have HM3 := Lib.hid (show FinM _ mb nm m from HM2.out.upd hA3 (by simp))
    have HR3 := Lib.hid (HR2.out.upd hA3 (by simp))
    have HU3 := Lib.hid (HU2.out.then hA3)
    have hkw : w.heap.size ≤ w2.heap.size := HU2.out.size
    clear hA3 HB2 HM2 HR2 HU2
    change Code.wp _ _ _ _ (w2.alloc (.cells #[.int .u8 X, .int .u8 Y, .int .u8 Z] 147))
    generalize w2.alloc (.cells #[.int .u8 X, .int .u8 Y, .int .u8 Z] 147) = w3 at *
    generalize w2.heap.size = kb at *
    have c0 := HB3.out.cell 0 rfl
    have c1 := HB3.out.cell 1 rfl
    have k0 := HK3.out.cell 0 rfl
    have k1 := HK3.out.cell 1 rfl
    have k2 := HK3.out.cell 2 rfl
    rcases (show FinM w3.drew mb nm m from HM3.out.upd ((Upd.refl [] w3).drew) (by simp)).look three_keyed Tryz.underlying117 Tryz.underlying3 (zeroI _) HKL.out with hlk | ⟨p, hpm, hlk⟩
    · go_wp2_with fail
      go_region
      have HB4 := Lib.hid (Blk.drew HB3.out)
      have HM4 := Lib.hid (show FinM w3.drew mb nm m from HM3.out.upd ((Upd.refl [] w3).drew) (by simp))
      have HR4 := Lib.hid (Row.drew HR3.out)
      have HK4 := Lib.hid (Blk.drew HK3.out)
      have HU4 := Lib.hid (HU3.out.drew)
      generalize w3.drew = w4 at *
      have c2 := HB4.out.cell 2 rfl
      have f2 := HB4.out.frz 2
      clear HB3 HM3 HR3 HK3 HU3 c0 c1 k0 k1 k2
      have hRz := HR4.out.alloc (.cells #[(.int .i64 (-1) : Value)] 3)
      have HNW : Hid (∀ j u, ([(.int .i64 (-1) : Value)] : List Value)[j]? = some u → (w4.alloc (.cells #[(.int .i64 (-1) : Value)] 3)).cell? ((⟨w4.heap.size, 0, none⟩ : Addr).add j) = some u) := Lib.hid (World.news_of_block (cs := #[(.int .i64 (-1) : Value)]) (t := 3) (fr := (0, 0)) (heap_alloc_new _ _))
      have HST : Hid (∀ v ∈ ([(.int .i64 (-1) : Value)] : List Value), v.oneCell' = true) := Lib.hid (by simp [Value.oneCell'])
      go_wp2_with (at_builtin; refine wpList_app _ rfl _ _ 55 rfl 3 i0 _ 1 8 Tryz.underlying55 hi jz0 jz1 jz2 rfl (by omega) (.slice va m vc) m _ rfl hRz ⟨w4.heap.size, 0, none⟩ 1 1 [(.int .i64 (-1) : Value)] rfl rfl HNW.out HST.out (by unfold maxLen; omega) (by omega) ?_)
      intro v5 w5 hR5 hU5 hT5
      obtain ⟨v5a, v5c, rfl⟩ := hR5.form
      have hA4 : Upd [] w4 (w4.alloc (.cells #[(.int .i64 (-1) : Value)] 3)) := (Upd.refl [] w4).alloc _
      obtain ⟨p1, p2, p3, p4, p5⟩ := fin_app (x := (-1)) HB4.out HM4.out HXL.out HX.out HO.out hA4 (by omega) hR5 hU5 hT5
      have hkn : kb ≠ fb ∧ kb ≠ mb := by
        have e1 := HFW.out.1
        have e2 := HFW.out.2.1
        exact ⟨by omega, by omega⟩
      have hkv : kb ∉ (Value.slice va m vc).ownBlock.toList := fun h => by
        have e := HFW.out.2.2 kb (by simpa using h)
        omega
      have hB6 := (HB4.out.upd hA4 (by simp)).upd hU5 (by simpa using HO.out.2.1)
      have hK6 := (HK4.out.upd hA4 (by simp)).upd hU5 hkv
      have hK7 := hK6.setFar (a := ⟨fb, 2, none⟩) (.slice v5a (m + 1) v5c) hkn.1
      have q2 := hB6.cell 2 rfl
      have g2 := hB6.frz 2
      have HP1 := Lib.hid p1
      have HP2 := Lib.hid p2
      have HP3 := Lib.hid p3
      have HP4 := Lib.hid p4
      have HK7 := Lib.hid hK7
      clear p1 p2 p3 p4 p5 hR5 hU5 hT5 hRz HNW HST hB6 hK6 hA4 c2 f2 hkv hK7 hkn
      go_upto_region 7 with fail
      generalize w5.setCell ⟨fb, 2, none⟩ (.slice v5a (m + 1) v5c) = w6 at *
      have c1 := HP1.out.1.cell 1 rfl
      have k0 := HK7.out.cell 0 rfl
      have k1 := HK7.out.cell 1 rfl
      have k2 := HK7.out.cell 2 rfl
      obtain ⟨w7, hrun, hM7, hU7⟩ := ((show FinM w6.drew mb nm m from HP2.out.upd ((Upd.refl [] w6).drew) (by simp)).mono (Nat.le_succ m)).store three_keyed Tryz.underlying117 Tryz.underlying3 HKL.out (by unfold maxLen; omega) m (by omega) (by omega)
      have HP7 := Lib.hid (show PutP w fb mb S (.slice va m vc) m D (.returned (.tuple #[])) w7 from ⟨rfl, _, ⟨(HP1.out.upd ((Upd.refl [] w6).drew) (by simp) (by simp)).upd hU7 (by simpa using HO.out.1) (fun k hk hm => by simp at hm; subst hm; exact HP1.out.2.2.2.2 hk), nm + 1, by omega, hM7⟩, ((HU4.out.mono (fun k hk => by simp at hk)).trans HP3.out (fun k hk => .inl hk)).drew.trans hU7 (fun k hk => .inl (by simp at hk; simp [hk])), HP4.out.imp id (fun ⟨g, e, hg⟩ => ⟨g, e, Nat.le_trans HU4.out.size hg⟩)⟩)
      clear hM7 hU7
      go_region
      go_returns
      exact HP7.out
    · have hpi : (0 : Int) ≤ (p : Int) ∧ (p : Int) < (m : Int) := by omega
      go_wp2_with fail
      go_region
      have HB4 := Lib.hid (Blk.drew HB3.out)
      have HM4 := Lib.hid (show FinM w3.drew mb nm m from HM3.out.upd ((Upd.refl [] w3).drew) (by simp))
      have HR4 := Lib.hid (Row.drew HR3.out)
      have HK4 := Lib.hid (Blk.drew HK3.out)
      have HU4 := Lib.hid (HU3.out.drew)
      generalize w3.drew = w4 at *
      have c2 := HB4.out.cell 2 rfl
      have f2 := HB4.out.frz 2
      clear HB3 HM3 HR3 HK3 HU3 c0 c1 k0 k1 k2
      have hRz := HR4.out.alloc (.cells #[(.int .i64 (p : Nat) : Value)] 3)
      have HNW : Hid (∀ j u, ([(.int .i64 (p : Nat) : Value)] : List Value)[j]? = some u → (w4.alloc (.cells #[(.int .i64 (p : Nat) : Value)] 3)).cell? ((⟨w4.heap.size, 0, none⟩ : Addr).add j) = some u) := Lib.hid (World.news_of_block (cs := #[(.int .i64 (p : Nat) : Value)]) (t := 3) (fr := (0, 0)) (heap_alloc_new _ _))
      have HST : Hid (∀ v ∈ ([(.int .i64 (p : Nat) : Value)] : List Value), v.oneCell' = true) := Lib.hid (by simp [Value.oneCell'])
      go_wp2_with (at_builtin; refine wpList_app _ rfl _ _ 55 rfl 3 i0 _ 1 8 Tryz.underlying55 hi jz0 jz1 jz2 rfl (by omega) (.slice va m vc) m _ rfl hRz ⟨w4.heap.size, 0, none⟩ 1 1 [(.int .i64 (p : Nat) : Value)] rfl rfl HNW.out HST.out (by unfold maxLen; omega) (by omega) ?_)
      intro v5 w5 hR5 hU5 hT5
      obtain ⟨v5a, v5c, rfl⟩ := hR5.form
      have hA4 : Upd [] w4 (w4.alloc (.cells #[(.int .i64 (p : Nat) : Value)] 3)) := (Upd.refl [] w4).alloc _
      obtain ⟨p1, p2, p3, p4, p5⟩ := fin_app (x := (p : Nat)) HB4.out HM4.out HXL.out HX.out HO.out hA4 (by omega) hR5 hU5 hT5
      have hkn : kb ≠ fb ∧ kb ≠ mb := by
        have e1 := HFW.out.1
        have e2 := HFW.out.2.1
        exact ⟨by omega, by omega⟩
      have hkv : kb ∉ (Value.slice va m vc).ownBlock.toList := fun h => by
        have e := HFW.out.2.2 kb (by simpa using h)
        omega
      have hB6 := (HB4.out.upd hA4 (by simp)).upd hU5 (by simpa using HO.out.2.1)
      have hK6 := (HK4.out.upd hA4 (by simp)).upd hU5 hkv
      have hK7 := hK6.setFar (a := ⟨fb, 2, none⟩) (.slice v5a (m + 1) v5c) hkn.1
      have q2 := hB6.cell 2 rfl
      have g2 := hB6.frz 2
      have HP1 := Lib.hid p1
      have HP2 := Lib.hid p2
      have HP3 := Lib.hid p3
      have HP4 := Lib.hid p4
      have HK7 := Lib.hid hK7
      clear p1 p2 p3 p4 p5 hR5 hU5 hT5 hRz HNW HST hB6 hK6 hA4 c2 f2 hkv hK7 hkn
      go_upto_region 7 with fail
      generalize w5.setCell ⟨fb, 2, none⟩ (.slice v5a (m + 1) v5c) = w6 at *
      have c1 := HP1.out.1.cell 1 rfl
      have k0 := HK7.out.cell 0 rfl
      have k1 := HK7.out.cell 1 rfl
      have k2 := HK7.out.cell 2 rfl
      obtain ⟨w7, hrun, hM7, hU7⟩ := ((show FinM w6.drew mb nm m from HP2.out.upd ((Upd.refl [] w6).drew) (by simp)).mono (Nat.le_succ m)).store three_keyed Tryz.underlying117 Tryz.underlying3 HKL.out (by unfold maxLen; omega) m (by omega) (by omega)
      have HP7 := Lib.hid (show PutP w fb mb S (.slice va m vc) m D (.returned (.tuple #[])) w7 from ⟨rfl, _, ⟨(HP1.out.upd ((Upd.refl [] w6).drew) (by simp) (by simp)).upd hU7 (by simpa using HO.out.1) (fun k hk hm => by simp at hm; subst hm; exact HP1.out.2.2.2.2 hk), nm + 1, by omega, hM7⟩, ((HU4.out.mono (fun k hk => by simp at hk)).trans HP3.out (fun k hk => .inl hk)).drew.trans hU7 (fun k hk => .inl (by simp at hk; simp [hk])), HP4.out.imp id (fun ⟨g, e, hg⟩ => ⟨g, e, Nat.le_trans HU4.out.size hg⟩)⟩)
      clear hM7 hU7
      go_region
      go_returns
      exact HP7.out
end Go.Proofs.YtdehkaknbmbieaaGreat

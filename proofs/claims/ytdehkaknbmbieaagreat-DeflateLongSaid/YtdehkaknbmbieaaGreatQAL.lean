/- Package lens: Of: its walk. -/
import Derived.Test.YtdehkaknbmbieaaGreatQAJ
import Derived.Test.YtdehkaknbmbieaaGreatQAK
import Derived.ArgAppend
import Derived.Deep.QuietTactic
import Derived.BigQuiet
import Derived.BigRegion
import Derived.WideKeyPair
import Derived.DeepKeys4
import Derived.Test.YtdehkaknbmbieaaGreatQAA
namespace Go.Proofs.YtdehkaknbmbieaaGreat
set_option linter.unusedVariables false
set_option linter.unusedSimpArgs false
set_option linter.unusedSectionVars false
open Go.RowKit
set_option linter.unusedVariables false
set_option linter.unusedSimpArgs false

theorem mkInts (n : Nat) (hn : n ≤ 1000000) (w : World) : (Instr.makeSlice 55 (.int .i64 (n : Int)) (.int .i64 (n : Int))).run Tryz.prog w = .ok (.slice (some ⟨w.heap.size, 0, none⟩) n n) (w.alloc (.cells (i64s (List.replicate n 0)).toArray 3)) := by
  obtain ⟨i0, hi, hz0, hz1, hz2⟩ := info_parts infoInt
  have h := run_make (P := Tryz.prog) w 55 3 i0 _ Tryz.underlying55 hi hz0 .i64 .i64 (n : Int) (n : Int) (by omega) (by omega) (by rw [hz2]; omega) (by omega)
  rw [h, hz1]
  have e : madeCells (Value.int .i64 0).cells ((n : Int).toNat * 1) = (i64s (List.replicate n 0)).toArray := by
    apply Array.toList_inj.1
    rw [show (Value.int .i64 0).cells = #[Value.int .i64 0] from rfl, toList_madeCells_one]
    simp [i64s]
  rw [e]
  rfl
/-- The lengths that lens.Of gives. -/
def ofL (many : List Int) (u : List Nat) (L n : Nat) : List Nat := if u.length = 1 then (List.replicate n 0).set (u.getD 0 0) 1 else (List.range n).map fun s => lenAt many u L s
def OfBad (L : Int) (n : Nat) (u : List Nat) : Prop := L < 1 ∨ 15 < L ∨ 300 < n ∨ 2 ^ L.toNat < u.length
def OfOut (many : List Int) (u : List Nat) (L : Int) (n : Nat) (w : World) (v : Value) (w' : World) : Prop :=
  (OfBad L n u ∧ v = .slice none 0 0) ∨ (¬ OfBad L n u ∧ ∃ ob, v = .slice (some ⟨ob, 0, none⟩) n n ∧ w.heap.size ≤ ob ∧ Blk w' ob (i64s (ofL many u L.toNat n)) 3)
def OfP (many : List Int) (L : Int) (n : Nat) (w : World) (e : Ending) (w' : World) : Prop := ∃ v u, e = .returned v ∧ IsUsed many many.length u ∧ OfOut many u L n w v w' ∧ Upd [] w w'
theorem used_ex (many : List Int) : ∃ u, IsUsed many many.length u := by
  cases h : many.length with
  | zero => exact ⟨[], IsUsed.nil many⟩
  | succ m =>
    have hdl : ∃ d : List (Fin (m + 1)), d.map Fin.val = rawU many (m + 1) := ⟨(rawU many (m + 1)).attach.map fun x => ⟨x.1, ((rawU_mem _ _ _).1 x.2).1⟩, by simp⟩
    obtain ⟨d, hdm⟩ := hdl
    have := sorted_used many m h d hdm
    rw [h] at this
    exact ⟨_, this⟩
set_option maxRecDepth 100000 in
set_option maxHeartbeats 6400000 in
theorem of_any (many : List Int) (a : Option Addr) (n cap : Nat) (L : Int) (w : World) (hI : IntsIn w a n many) (hn : n ≤ 1000000) :
    Calls Tryz.prog 51 #[.slice a n cap, .int .i64 L] w fun e w' => OfP many L n w e w' := by
  have HUSD := Lib.hid (fun w1 (h : Upd [] w w1) => used_any many a n cap w1 (hI.pure h) hn)
  have HI := Lib.hid hI
  obtain ⟨u0, hu0⟩ := used_ex many
  have HU0 := Lib.hid hu0
  have HLN := Lib.hid hI.len
  clear hI hu0
  by_cases h1 : L < 1
  · go_enter Tryz.func51, Tryz.ntmps51
    go_wp2
    go_ret
    exact ⟨_, u0, rfl, HU0.out, .inl ⟨.inl h1, rfl⟩, Upd.refl _ _⟩
  by_cases h2 : 15 < L
  · go_enter Tryz.func51, Tryz.ntmps51
    go_wp2
    go_ret
    exact ⟨_, u0, rfl, HU0.out, .inl ⟨.inr (.inl h2), rfl⟩, Upd.refl _ _⟩
  by_cases h3 : 300 < n
  · have h3z : (300 : Int) < (n : Int) := by omega
    go_enter Tryz.func51, Tryz.ntmps51
    go_wp2
    go_ret
    exact ⟨_, u0, rfl, HU0.out, .inl ⟨.inr (.inr (.inl h3)), rfl⟩, Upd.refl _ _⟩
  have h3z : ¬ (300 : Int) < (n : Int) := by omega
  have hmk := mkInts n hn
  obtain ⟨l, rfl⟩ : ∃ l : Nat, L = (l : Int) := ⟨L.toNat, by omega⟩
  have hl1 : 1 ≤ l := by omega
  have hl2 : l ≤ 15 := by omega
  obtain ⟨P, hP⟩ : ∃ P : Nat, 2 ^ l = P := ⟨_, rfl⟩
  have hPb : P ≤ 32768 := by
    have := Nat.pow_le_pow_right (n := 2) (by omega) hl2
    omega
  have hpw : wrap64 ((2 : Int) ^ l) = (P : Int) := by
    have : ((2 : Int) ^ l) = (P : Int) := by rw [← hP]; simp
    rw [this]
    unfold wrap64
    omega
  have HPP := Lib.hid hP
  clear hP
  go_enter Tryz.func51, Tryz.ntmps51
  go_wp2_with fail
  refine (HUSD.out _ (Upd.refl _ _)).mono ?_
  rintro e w1 ⟨v1, u, rfl, hu, hO, hU⟩
  obtain ⟨a1, c1, rfl⟩ := hO.form
  obtain ⟨k, hk⟩ : ∃ k, (i64s u).length = k := ⟨_, rfl⟩
  rw [hk] at hO ⊢
  have HK : Hid (u.length = k) := Lib.hid (by rw [← hk, length_i64s])
  have HUs := Lib.hid hu
  have HR1 : Hid (Row w1 3 1 (.slice a1 k c1) k (i64s u)) := Lib.hid (by have := hO.1; rwa [hk] at this)
  have HU := Lib.hid hU
  clear hk hu hO hU HUSD HU0
  have HTN : Hid ((l : Int).toNat = l) := Lib.hid (by omega)
  by_cases hb : P < k
  · have hbz : (P : Int) < (k : Int) := by omega
    go_wp2
    go_ret
    exact ⟨_, u, rfl, HUs.out, .inl ⟨.inr (.inr (.inr (by rw [HTN.out, HPP.out, HK.out]; exact hb))), rfl⟩, HU.out.alloc _⟩
  have hbz : ¬ (P : Int) < (k : Int) := by omega
  have HNB : Hid (¬ OfBad (l : Int) n u) := Lib.hid (by
    unfold OfBad
    rw [HTN.out, HPP.out, HK.out]
    omega)
  rcases Nat.lt_or_ge k 1 with hk0 | hk0
  · obtain rfl : k = 0 := by omega
    go_wp2
    go_ret
    refine ⟨_, u, rfl, HUs.out, .inr ⟨HNB.out, _, rfl, HU.out.size, ?_⟩, HU.out.alloc _⟩
    have hu : u = [] := List.eq_nil_of_length_eq_zero HK.out
    have e : ofL many u (l : Int).toNat n = List.replicate n 0 := by
      subst hu
      unfold ofL
      rw [if_neg (by simp)]
      apply List.ext_getElem
      · simp
      · intro i h1 h2
        simp [lenAt, sumC]
    rw [e]
    exact Blk.new w1 _ _
  · rcases Nat.lt_or_ge k 2 with hk1 | hk1
    · obtain rfl : k = 1 := by omega
      have hu1 : u.length = 1 := HK.out
      have hlt : u[0] < n := by have := ((HUs.out.mem u[0]).1 (List.getElem_mem (by omega))).1; rwa [HLN.out] at this
      obtain ⟨g, c2, hv, hg, hle⟩ := HR1.out.form' (by omega)
      cases hv
      have hc1 : w1.cell? ⟨g, 0, none⟩ = some (.int .i64 (u[0] : Nat)) := HR1.out.cell 0 (by rw [i64s, List.getElem?_map, List.getElem?_eq_getElem (by omega)]; rfl)
      have HE : Hid (ofL many u (l : Int).toNat n = (List.replicate n 0).set u[0] 1) := Lib.hid (by
        unfold ofL
        rw [if_pos hu1]
        simp [List.getD_eq_getElem?_getD, hu1])
      generalize u[0] = s at *
      have hsz : (s : Int) < (n : Int) := by omega
      have hb1 := Blk.new w1 (i64s (List.replicate n 0)) 3
      have hf1 := hb1.frz s
      have hcc := hb1.cell s (v := .int .i64 0) (by simp [i64s, hlt])
      have hcg : (w1.alloc (.cells (i64s (List.replicate n 0)).toArray 3)).cell? ⟨g, 0, none⟩ = some (.int .i64 (s : Nat)) := ((Upd.refl [] w1).alloc (.cells (i64s (List.replicate n 0)).toArray 3)).at hg (by simp) 0 |>.trans hc1
      have HB1 := Lib.hid hb1
      have HU2 := Lib.hid (HU.out.alloc (.cells (i64s (List.replicate n 0)).toArray 3))
      have HSZ := Lib.hid HU.out.size
      clear hb1 hu1 hg hc1 HK HR1 hle
      go_wp2
      go_ret
      refine ⟨_, u, rfl, HUs.out, .inr ⟨HNB.out, _, rfl, HSZ.out, ?_⟩, HU.out.alloc _⟩
      rw [HE.out, i64s_set]
      exact Blk.new w1 _ _
    · have hk1z : ¬ k = 1 := by omega
      have hk1y : (1 : Int) < (k : Int) := by omega
      have hrow : 2 * k - 2 ≤ (rowC (lvs many u) l).length := by
        have := (len_fit many u l HUs.out.srt (by rw [HK.out]; exact hk1) (by rw [HK.out, HPP.out]; omega)).1
        rwa [HK.out] at this
      have hun : k ≤ n := by
        have := HUs.out.le
        rw [HK.out, HLN.out] at this
        exact this
      have hua : Upd [] w1 (w1.alloc (.cells (i64s (List.replicate n 0)).toArray 3)) := (Upd.refl _ _).alloc _
      obtain ⟨g, c2, hv, hg, hle⟩ := HR1.out.form' (by omega)
      cases hv
      have HF := Lib.hid (fill_any many u l n n w1.heap.size k c1 cap (some ⟨g, 0, none⟩) a _ (Blk.new w1 (i64s (List.replicate n 0)) 3) (fun i hi => ⟨g, 0, rfl, by
          rw [Nat.zero_add]
          exact (hua.at hg (by simp) i).trans (HR1.out.cell i (by rw [i64s, List.getElem?_map, List.getElem?_eq_getElem hi]; rfl))⟩)
        ((HI.out.pure HU.out).pure hua) (by omega) hl2 HK.out hk1 hun (fun s hs => by have := ((HUs.out.mem s).1 hs).1; rwa [HLN.out] at this) hrow)
      clear hrow hun hua hg hle
      go_wp2_with fail
      refine HF.out.mono ?_
      rintro e w4 ⟨rfl, hB4, hU4⟩
      have HB4 := Lib.hid hB4
      have HU4 := Lib.hid hU4
      have HSZ := Lib.hid HU.out.size
      clear hB4 hU4 HF
      go_wp2
      go_ret
      refine ⟨_, u, rfl, HUs.out, .inr ⟨HNB.out, _, rfl, HSZ.out, ?_⟩, (HU.out.alloc _).trans HU4.out (fun q hq => .inr (by simp at hq; have := HSZ.out; omega))⟩
      have e : ofL many u (l : Int).toNat n = (List.range n).map fun s => lenAt many u l s := by
        unfold ofL
        rw [if_neg (by rw [HK.out]; omega), HTN.out]
      rw [e]
      exact HB4.out
end Go.Proofs.YtdehkaknbmbieaaGreat
namespace Go.Proofs.YtdehkaknbmbieaaGreat
set_option linter.unusedVariables false
set_option linter.unusedSimpArgs false
set_option linter.unusedSectionVars false
open Go.RowKit
set_option linter.unusedVariables false
set_option linter.unusedSimpArgs false

/-- A row of numbers, as integers. -/
def ints (l : List Nat) : List Int := l.map fun x : Nat => (x : Int)
theorem IntsIn.row {w : World} {t : TypeId} {a : Option Addr} {k c : Nat} {l : List Nat} (h : Row w t 1 (.slice a k c) k (i64s l)) (hb : ∀ x ∈ l, x ≤ 9223372036854775807) : IntsIn w a k (ints l) := by
  have hl : l.length = k := by have := h.len; rw [length_i64s] at this; omega
  refine ⟨by simp [ints, hl], fun i hi => ?_⟩
  have hi2 : i < l.length := by simpa [ints] using hi
  obtain ⟨g, cc, e, _, _⟩ := h.form' (by omega)
  cases e
  have hx := hb _ (List.getElem_mem hi2)
  refine ⟨g, 0, rfl, ?_, by simp [ints] <;> omega, by simp [ints] <;> omega⟩
  rw [Nat.zero_add, h.cell i (u := .int .i64 (l[i] : Nat)) (by simp [i64s, hi2])]
  simp [ints]
theorem OwnX.ints {w0 w : World} {t : TypeId} {v : Value} {l : List Nat} (h : OwnX w0 w t v (i64s l)) (hb : ∀ x ∈ l, x ≤ 9223372036854775807) : ∃ a c, v = .slice a l.length c ∧ IntsIn w a l.length (ints l) := by
  obtain ⟨a, c, rfl⟩ := h.form
  have h1 := h.1
  rw [length_i64s] at h1 ⊢
  exact ⟨a, c, rfl, IntsIn.row h1 hb⟩
theorem IntsIn.blk {w : World} {b n : Nat} {t : TypeId} {l : List Nat} (h : Blk w b (i64s l) t) (hn : l.length = n) (hb : ∀ x ∈ l, x ≤ 9223372036854775807) : IntsIn w (some ⟨b, 0, none⟩) n (ints l) := by
  refine ⟨by simp [ints, hn], fun i hi => ?_⟩
  have hi2 : i < l.length := by simpa [ints] using hi
  have hx := hb _ (List.getElem_mem hi2)
  refine ⟨b, 0, rfl, ?_, by simp [ints] <;> omega, by simp [ints] <;> omega⟩
  rw [Nat.zero_add, h.cell i (v := .int .i64 (l[i] : Nat)) (by simp [i64s, hi2])]
  simp [ints]
def LivesP (w : World) (e : Ending) (w' : World) : Prop := e = .returned (.bool true) ∧ Upd [] w w'
end Go.Proofs.YtdehkaknbmbieaaGreat
namespace Go.Proofs.YtdehkaknbmbieaaGreat
set_option linter.unusedVariables false
set_option linter.unusedSimpArgs false
set_option linter.unusedSectionVars false
open Go.RowKit
set_option linter.unusedVariables false

/-- A token. -/
structure Tok where
  byte : Nat
  long : Int
  back : Int
def Tok.cs (t : Tok) : List Value := [.int .u8 (t.byte : Nat), .int .i64 t.long, .int .i64 t.back]
/-- Tokens that can be read where a slice leads. -/
structure TokIn (w : World) (a : Option Addr) (len : Nat) (l : List Tok) : Prop where
  len : l.length = len
  cell : ∀ i (h : i < l.length), ∃ b off, a = some ⟨b, off, none⟩ ∧ (w.cell? ⟨b, off + i * 3, none⟩ = some (.int .u8 (l[i].byte : Nat)) ∧ w.cell? ⟨b, off + i * 3 + 1, none⟩ = some (.int .i64 l[i].long) ∧ w.cell? ⟨b, off + i * 3 + 2, none⟩ = some (.int .i64 l[i].back)) ∧
    l[i].byte < 256 ∧ (-9223372036854775808 ≤ l[i].long ∧ l[i].long ≤ 9223372036854775807) ∧ (-9223372036854775808 ≤ l[i].back ∧ l[i].back ≤ 9223372036854775807)
theorem TokIn.upd {w w' : World} {a : Option Addr} {len : Nat} {l : List Tok} {fp : List Nat} (h : TokIn w a len l) (hU : Upd fp w w') (hf : ∀ b off, a = some ⟨b, off, none⟩ → b ∉ fp) : TokIn w' a len l :=
  ⟨h.len, fun i hi => by
    obtain ⟨b, off, e, ⟨c1, c2, c3⟩, r⟩ := h.cell i hi
    have hb : b < w.heap.size := World.block_lt_of_cell? w _ c1
    exact ⟨b, off, e, ⟨(hU.at hb (hf b off e) _).trans c1, (hU.at hb (hf b off e) _).trans c2, (hU.at hb (hf b off e) _).trans c3⟩, r⟩⟩
theorem TokIn.pure {w w' : World} {a : Option Addr} {len : Nat} {l : List Tok} (h : TokIn w a len l) (hU : Upd [] w w') : TokIn w' a len l := h.upd hU (by simp)
/-- So many bytes more, each from so far back. -/
def copyN (s : List Nat) (back : Nat) : Nat → List Nat
  | 0 => s
  | k + 1 => copyN s back k ++ [(copyN s back k).getD ((copyN s back k).length - back) 0]
theorem copyN_succ (s : List Nat) (back k : Nat) : copyN s back (k + 1) = copyN s back k ++ [(copyN s back k).getD ((copyN s back k).length - back) 0] := by rw [copyN]
theorem copyN_len (s : List Nat) (back : Nat) : ∀ k, (copyN s back k).length = s.length + k
  | 0 => rfl
  | k + 1 => by rw [copyN_succ, List.length_append, copyN_len s back k]; rfl
/-- May a copy not be, behind so many bytes? -/
def badCopy (t : Tok) (n : Nat) : Prop := t.byte ≠ 0 ∨ t.long < 3 ∨ 258 < t.long ∨ t.back < 1 ∨ 32768 < t.back ∨ (n : Int) < t.back ∨ 65000 < t.long + (n : Int)
instance (t : Tok) (n : Nat) : Decidable (badCopy t n) := by unfold badCopy; infer_instance
/-- What tokens expand to. -/
def expTo : List Tok → List Nat → Option (List Nat)
  | [], s => some s
  | t :: r, s => if t.long = 0 then (if t.back ≠ 0 ∨ 65000 ≤ s.length then none else expTo r (s ++ [t.byte])) else if badCopy t s.length then none else expTo r (copyN s t.back.toNat t.long.toNat)
theorem expTo_cons (t : Tok) (r : List Tok) (s : List Nat) : expTo (t :: r) s = if t.long = 0 then (if t.back ≠ 0 ∨ 65000 ≤ s.length then none else expTo r (s ++ [t.byte])) else if badCopy t s.length then none else expTo r (copyN s t.back.toNat t.long.toNat) := rfl
/-- A token that may be. -/
def okTok (t : Tok) : Prop := (t.long = 0 ∧ t.back = 0 ∧ t.byte < 256) ∨ (t.byte = 0 ∧ 3 ≤ t.long ∧ t.long ≤ 258 ∧ 1 ≤ t.back ∧ t.back ≤ 32768)
end Go.Proofs.YtdehkaknbmbieaaGreat
namespace Go.Proofs.YtdehkaknbmbieaaGreat
set_option linter.unusedVariables false
set_option linter.unusedSimpArgs false
set_option linter.unusedSectionVars false
open Go.RowKit
attribute [local go_sem] Oper.semAt_some
set_option linter.unusedVariables false
set_option linter.unusedSimpArgs false

/-- Three bytes of a text. -/
def key3 (S : ByteArray) (i : Nat) (h : i + 3 ≤ S.size) : Value := .agg #[.int .u8 (S[i].toNat : Nat), .int .u8 (S[i + 1].toNat : Nat), .int .u8 (S[i + 2].toNat : Nat)]
theorem results_three {fn : Func} {p : Tmp} (h : fn.results = #[.cell p 147]) (tmps : Array Value) (w : World) (g : Nat) (x y z : Value) (hp : tmps.getD p undef = .pointer (some ⟨g, 0, none⟩)) (hB : Blk w g [x, y, z] 147) :
    (results fn tmps).run Tryz.prog w = .ok (.agg #[x, y, z]) w := by
  have hc0 := hB.cell 0 rfl
  have hc1 := hB.cell 1 rfl
  have hc2 := hB.cell 2 rfl
  have hp2 : tmps[p]?.getD undef = .pointer (some ⟨g, 0, none⟩) := by rw [← hp]; simp
  simp [results, h, go_sem, hp2, hc0, hc1, hc2]
set_option maxRecDepth 100000 in
set_option maxHeartbeats 3200000 in
theorem lzkey_any (S : ByteArray) (i fb : Nat) (x1 x2 x3 : Value) (w : World) (hs : S.size ≤ 65000) (hi : i + 3 ≤ S.size) (hF : Blk w fb [.string S, x1, x2, x3] 119) :
    Calls Tryz.prog 104 #[.pointer (some ⟨fb, 0, none⟩), .int .i64 (i : Nat)] w fun e w' => e = .returned (key3 S i hi) ∧ Upd [] w w' := by
  have HF := Lib.hid hF
  have hlt := hF.lt
  have HK : Hid (key3 S i hi = .agg #[.int .u8 (S[i].toNat : Nat), .int .u8 (S[i + 1].toNat : Nat), .int .u8 (S[i + 2].toNat : Nat)]) := Lib.hid rfl
  obtain ⟨p, hp⟩ : ∃ p, i + 1 = p := ⟨_, rfl⟩
  obtain ⟨q, hq⟩ : ∃ q, i + 2 = q := ⟨_, rfl⟩
  have hpw : IntKind.i64.wrap ((i : Int) + 1) = (p : Int) := by rw [IntWalk.i64_in _ (by omega)]; omega
  have hqw : IntKind.i64.wrap ((i : Int) + 2) = (q : Int) := by rw [IntWalk.i64_in _ (by omega)]; omega
  have hps : p < S.size := by omega
  have hqs : q < S.size := by omega
  have his : i < S.size := by omega
  have hpz : (p : Int) < (S.size : Int) := by omega
  have hqz : (q : Int) < (S.size : Int) := by omega
  have hiz : (i : Int) < (S.size : Int) := by omega
  have HK2 : Hid (key3 S i hi = .agg #[.int .u8 (S[i].toNat : Nat), .int .u8 (S[p].toNat : Nat), .int .u8 (S[q].toNat : Nat)]) := Lib.hid (by subst hp; subst hq; exact HK.out)
  clear HK hp hq
  generalize key3 S i hi = KV at *
  go_enter Tryz.func104, Tryz.ntmps104
  go_upto_region 1 with fail
  have HB := Lib.hid (Blk.new w [.int .u8 0, .int .u8 0, .int .u8 0] 147)
  have HU := Lib.hid ((Upd.refl [] w).alloc (.cells #[.int .u8 0, .int .u8 0, .int .u8 0] 147))
  have HF1 := Lib.hid (HF.out.alloc (.cells #[.int .u8 0, .int .u8 0, .int .u8 0] 147))
  generalize w.alloc (.cells #[.int .u8 0, .int .u8 0, .int .u8 0] 147) = w1 at *
  obtain ⟨B, hB⟩ : ∃ B, w.heap.size = B := ⟨_, rfl⟩
  rw [hB] at HB ⊢
  have hBw : w.heap.size ≤ B := by omega
  have c0 := HF1.out.cell 0 rfl
  have b0 := HB.out.cell 0 rfl
  have b1 := HB.out.cell 1 rfl
  have b2 := HB.out.cell 2 rfl
  have f0 := HB.out.frz 0
  have f1 := HB.out.frz 1
  have f2 := HB.out.frz 2
  clear hF hlt hB HF
  go_region
  generalize (.int .u8 (S[i].toNat : Nat) : Value) = X at *
  generalize (.int .u8 (S[p].toNat : Nat) : Value) = Y at *
  generalize (.int .u8 (S[q].toNat : Nat) : Value) = Z at *
  have hB9 : Blk (((w1.setCell ⟨B, 0, none⟩ X).setCell ⟨B, 1, none⟩ Y).setCell ⟨B, 2, none⟩ Z).drew B [X, Y, Z] 147 := Blk.drew (((HB.out.set 0 X).set 1 Y).set 2 Z)
  have hU9 : Upd [] w (((w1.setCell ⟨B, 0, none⟩ X).setCell ⟨B, 1, none⟩ Y).setCell ⟨B, 2, none⟩ Z).drew := (((HU.out.setCell (.inr hBw) X).setCell (.inr hBw) Y).setCell (.inr hBw) Z).drew
  generalize (((w1.setCell ⟨B, 0, none⟩ X).setCell ⟨B, 1, none⟩ Y).setCell ⟨B, 2, none⟩ Z).drew = w9 at *
  have HU9 := Lib.hid hU9
  clear hU9 HB HU HF1
  go_wp2
  refine bodyPost_ret (results_three rfl _ _ B X Y Z rfl hB9) rfl ?_
  exact ⟨by rw [HK2.out], HU9.out⟩
end Go.Proofs.YtdehkaknbmbieaaGreat
namespace Go.Proofs.YtdehkaknbmbieaaGreat
set_option linter.unusedVariables false
set_option linter.unusedSimpArgs false
set_option linter.unusedSectionVars false
open Go.RowKit Go.Maps Go.WideMaps

theorem zeroI (w : World) : (zeroValue 3).run Tryz.prog w = .ok (.int .i64 0) w := by kernel_rfl
theorem three_laid : laidOutB Tryz.prog = true := by kernel_rfl
theorem three_arr : ArrKey Tryz.prog 147 5 3 := ⟨Tryz.underlying147, by kernel_rfl, by kernel_rfl, by kernel_rfl⟩
theorem three_keyed : Keyed Tryz.prog 147 := Keyed.of_law (deep_law_laid three_laid (m := 2) (by omega) (of_decide_eq_true (by kernel_rfl)) (by kernel_rfl) (by kernel_rfl))
theorem keyOf_three {P : Program} {k e : TypeId} {q : IntKind} (A : ArrKey P k e 3) (he : P.underlying e = some (.int q)) (hsz : ∃ m, P.types.size = m + 1) {a b c : Int} (wa : (Lit.int q a).wf = true) (wb : (Lit.int q b).wf = true) (wc : (Lit.int q c).wf = true) :
    keyOf P k (.agg #[.int q a, .int q b, .int q c]) = some (.string (keyBytes [.int q a, .int q b, .int q c])) := by
  have hkt := A.keyType hsz
  obtain ⟨m, hm⟩ := hsz
  unfold keyOf
  simp only [A.hu]
  rw [if_pos (by simp [hkt, Value.formed, A.hu, A.size]), hm]
  unfold Program.keyLits
  simp only [A.hu, Value.cells]
  rw [if_pos (by rw [A.size]; rfl), show List.range 3 = [0, 1, 2] from rfl, List.mapM_cons, List.mapM_cons, List.mapM_cons, List.mapM_nil]
  simp [A.one, Program.keyLits, he, wa, wb, wc]
theorem key3_lit (S : ByteArray) (i : Nat) (h : i + 3 ≤ S.size) : ∃ kl, keyOf Tryz.prog 147 (key3 S i h) = some kl :=
  ⟨_, keyOf_three three_arr Tryz.underlying5 ⟨Tryz.prog.types.size - 1, by kernel_rfl⟩ (by have := S[i].toNat_lt; simp [Lit.wf, IntKind.min, IntKind.max, IntKind.signed, IntKind.bits]; omega) (by have := S[i + 1].toNat_lt; simp [Lit.wf, IntKind.min, IntKind.max, IntKind.signed, IntKind.bits]; omega) (by have := S[i + 2].toNat_lt; simp [Lit.wf, IntKind.min, IntKind.max, IntKind.signed, IntKind.bits]; omega)⟩
variable {P : Program} {k e t : TypeId}
/-- A map of at most n entries whose values are less than m. -/
def MapLt (P : Program) (k e : TypeId) (w : World) (b n m : Nat) : Prop :=
  ∃ D : DataW Unit, w.ownsMap P k (plainElem P e) b n D ∧ ∀ kl z, D.atKey kl z = z ∨ ∃ p : Nat, p < m ∧ D.atKey kl z = .lit (.int .i64 (p : Nat))
theorem MapLt.new (w : World) (m : Nat) : MapLt P k e (w.alloc (.map #[] 0)) w.heap.size 0 m :=
  ⟨.map [], World.ownsMap_made _ _ _ _, fun kl z => .inl rfl⟩
theorem MapLt.upd {w w' : World} {b n m : Nat} {fp : List Nat} (h : MapLt P k e w b n m) (hu : Upd fp w w') (hn : b ∉ fp) : MapLt P k e w' b n m := by
  obtain ⟨D, h1, h2⟩ := h
  exact ⟨D, ownsMap_upd h1 hu hn, h2⟩
theorem MapLt.mono {w : World} {b n m m' : Nat} (h : MapLt P k e w b n m) (hm : m ≤ m') : MapLt P k e w b n m' := by
  obtain ⟨D, h1, h2⟩ := h
  exact ⟨D, h1, fun kl z => (h2 kl z).imp_right fun ⟨p, hp, e⟩ => ⟨p, by omega, e⟩⟩
theorem MapLt.lt {w : World} {b n m : Nat} (h : MapLt P k e w b n m) : b < w.heap.size := by obtain ⟨D, h1, _⟩ := h; exact h1.lt
/-- A look-up with 'ok'. -/
theorem MapLt.look {w : World} {b n m : Nat} (h : MapLt P k e w b n m) (K : Keyed P k) (ht : P.underlying t = some (.map k e)) (he : P.underlying e = some (.int .i64)) (hz : (zeroValue e).run P w = .ok (.int .i64 0) w) {key : Value} {kl : Lit} (hkey : keyOf P k key = some kl) :
    (Instr.lookup t (.map (some b)) key true).run P w = .ok (.tuple #[.int .i64 0, .bool false]) w ∨ ∃ p : Nat, p < m ∧ (Instr.lookup t (.map (some b)) key true).run P w = .ok (.tuple #[.int .i64 (p : Nat), .bool true]) w := by
  obtain ⟨D, ⟨es, clock, hb, F, _, rfl⟩, h2⟩ := h
  rcases Maps.fit_look true K ht hz hb F hkey with ⟨hrun, _, _⟩ | ⟨e0, y, _, _, hrun, hR, hat, _⟩
  · exact .inl (by rw [hrun]; rfl)
  · right
    obtain ⟨a, hv, hy, _⟩ := plainElem_int_inv he hR
    rcases h2 kl .nil with e1 | ⟨p, hp, e1⟩
    · rw [hat, hy] at e1
      cases e1
    · rw [hat, hy] at e1
      simp only [DataW.lit.injEq, Lit.int.injEq, true_and] at e1
      exact ⟨p, hp, by rw [hrun, hv, e1]; rfl⟩
/-- A store. -/
theorem MapLt.store {w : World} {b n m : Nat} (h : MapLt P k e w b n m) (K : Keyed P k) (ht : P.underlying t = some (.map k e)) (he : P.underlying e = some (.int .i64)) {key : Value} {kl : Lit} (hkey : keyOf P k key = some kl) (hn : n < maxLen) (v : Nat) (hvm : v < m) (hv : v ≤ 9223372036854775807) :
    ∃ w', (Instr.mapUpdate t (.map (some b)) key (.int .i64 (v : Nat))).run P w = .ok () w' ∧ MapLt P k e w' b (n + 1) m ∧ Upd [b] w w' := by
  obtain ⟨D, h1, h2⟩ := h
  have hw : (Lit.int .i64 (v : Nat)).wf = true := by simp [Lit.wf, IntKind.min, IntKind.max, IntKind.signed, IntKind.bits]; omega
  obtain ⟨w', hr, h3, h4⟩ := h1.update K ht hn hkey (plainElem_int he hw)
  refine ⟨w', hr, ⟨_, h3, fun kl' z => ?_⟩, (Upd.refl _ w).grown h4 (fun j hj => .inl (by simp at hj; simp [hj]))⟩
  by_cases hp : kl' = kl
  · subst hp
    exact .inr ⟨v, hvm, by rw [atKey_put_same (h1.tidy K).isMap (K.key hkey)]⟩
  · rw [atKey_put_other hp]
    exact h2 kl' z
end Go.Proofs.YtdehkaknbmbieaaGreat

/- slices.Clone of tokens; swingleref07.Same: their walks. -/
import Derived.Lib.SliceRun
import Derived.Test.YtdehkaknbmbieaaQAP
namespace Go.Proofs.Ytdehkaknbmbieaa
set_option linter.unusedVariables false
set_option linter.unusedSimpArgs false
set_option linter.unusedSectionVars false
open Go.RowKit
attribute [local go_sem] Oper.semAt_some
set_option linter.unusedVariables false
set_option linter.unusedSimpArgs false

/-- The cells of tokens. -/
def tcs (l : List Tok) : List Value := l.flatMap Tok.cs
theorem tcs_cons (t : Tok) (l : List Tok) : tcs (t :: l) = t.cs ++ tcs l := rfl
theorem tcs_len : ∀ l : List Tok, (tcs l).length = l.length * 3
  | [] => rfl
  | t :: l => by rw [tcs_cons, List.length_append, tcs_len l, List.length_cons]; show 3 + _ = _; omega
theorem tcs_at : ∀ (l : List Tok) (i : Nat) (h : i < l.length) (r : Nat), r < 3 → (tcs l)[i * 3 + r]? = (l[i].cs)[r]?
  | [], i, h, _, _ => by simp at h
  | t :: l, 0, h, r, hr => by
    rw [tcs_cons, List.getElem?_append_left (by show _ < 3; omega)]
    simp
  | t :: l, i + 1, h, r, hr => by
    rw [tcs_cons, List.getElem?_append_right (by show 3 ≤ _; omega)]
    have := tcs_at l i (by simpa using h) r hr
    rw [show (i + 1) * 3 + r - t.cs.length = i * 3 + r by show _ - 3 = _; omega, this]
    rfl
theorem tcs_one (l : List Tok) : ∀ u ∈ tcs l, u.oneCell' = true := fun u hu => by
  obtain ⟨t, _, h⟩ := List.mem_flatMap.1 hu
  simp [Tok.cs] at h
  rcases h with rfl | rfl | rfl <;> rfl
/-- The values of tokens fit. -/
def Fit (l : List Tok) : Prop := ∀ t ∈ l, t.byte < 256 ∧ (-9223372036854775808 ≤ t.long ∧ t.long ≤ 9223372036854775807) ∧ (-9223372036854775808 ≤ t.back ∧ t.back ≤ 9223372036854775807)
theorem TokIn.fit {w : World} {a : Option Addr} {n : Nat} {l : List Tok} (h : TokIn w a n l) : Fit l := fun t ht => by
  obtain ⟨i, hi, rfl⟩ := List.getElem_of_mem ht
  obtain ⟨b, off, _, _, r⟩ := h.cell i hi
  exact r
theorem TokIn.cells {w : World} {a : Option Addr} {n : Nat} {l : List Tok} (h : TokIn w a n l) (b off : Nat) (ha : a = some ⟨b, off, none⟩) : ∀ j u, (tcs l)[j]? = some u → w.cell? ⟨b, off + j, none⟩ = some u := fun j u hu => by
  obtain ⟨hj, _⟩ := List.getElem?_eq_some_iff.1 hu
  rw [tcs_len] at hj
  have hi : j / 3 < l.length := by omega
  have hr : j % 3 < 3 := by omega
  have e : j = j / 3 * 3 + j % 3 := by omega
  obtain ⟨b', off', e', ⟨c1, c2, c3⟩, _⟩ := h.cell (j / 3) hi
  rw [ha] at e'
  cases e'
  rw [e, tcs_at l _ hi _ hr] at hu
  obtain hr | hr | hr : j % 3 = 0 ∨ j % 3 = 1 ∨ j % 3 = 2 := by omega
  all_goals (rw [hr] at hu; simp [Tok.cs] at hu; subst hu)
  · exact (congrArg (fun k => w.cell? ⟨b, k, none⟩) (by omega : off + j = off + j / 3 * 3)).trans c1
  · exact (congrArg (fun k => w.cell? ⟨b, k, none⟩) (by omega : off + j = off + j / 3 * 3 + 1)).trans c2
  · exact (congrArg (fun k => w.cell? ⟨b, k, none⟩) (by omega : off + j = off + j / 3 * 3 + 2)).trans c3
theorem TokIn.of_row {w : World} {v : Value} {n : Nat} {l : List Tok} (h : Row w 40 3 v n (tcs l)) (hf : Fit l) : ∃ a c, v = .slice a n c ∧ TokIn w a n l ∧ (∀ b off, a = some ⟨b, off, none⟩ → v.ownBlock = some b) ∧ ((a = none ∧ n = 0 ∧ c = 0) ∨ ∃ g o, a = some ⟨g, o, none⟩) ∧ n ≤ c := by
  have hl : l.length = n := by have := h.1; rw [tcs_len] at this; omega
  have hI : ∀ a c, v = .slice a n c → TokIn w a n l := fun a c hv => ⟨hl, fun i hi => by
    subst hv
    obtain ⟨g, cc, e, _, _⟩ := h.form' (by omega)
    cases e
    have hx := hf _ (List.getElem_mem hi)
    refine ⟨g, 0, rfl, ⟨?_, ?_, ?_⟩, hx⟩
    · have := h.cell (i * 3 + 0) (by rw [tcs_at l i hi 0 (by omega)]; rfl); rw [Nat.zero_add]; exact this
    · have := h.cell (i * 3 + 1) (by rw [tcs_at l i hi 1 (by omega)]; rfl); rw [Nat.zero_add]; exact this
    · have := h.cell (i * 3 + 2) (by rw [tcs_at l i hi 2 (by omega)]; rfl); rw [Nat.zero_add]; exact this⟩
  rcases h.2 with ⟨hv, h0⟩ | ⟨g, cap, cur, hv, hb, hg, hc, _⟩
  · subst h0
    exact ⟨none, 0, hv, hI _ _ hv, (fun b off e => by cases e), .inl ⟨rfl, rfl, rfl⟩, Nat.le_refl _⟩
  · exact ⟨_, cap, hv, hI _ _ hv, (fun b off e => by cases e; rw [hv]; rfl), .inr ⟨g, 0, rfl⟩, hc⟩
theorem infoTok : (Try.prog.info? 40).map (fun i => (i.zero, i.size, i.bytes)) = some (some (.agg #[.int .u8 0, .int .i64 0, .int .i64 0]), 3, 24) := by kernel_rfl
/-- A clone of tokens: in a block of its own. -/
def TCloneP (l : List Tok) (n : Nat) (w : World) (e : Ending) (w' : World) : Prop := ∃ v, e = .returned v ∧ Row w' 40 3 v n (tcs l) ∧ (∀ k, v.ownBlock = some k → w.heap.size ≤ k) ∧ Upd [] w w'
set_option maxRecDepth 100000 in
set_option maxHeartbeats 6400000 in
theorem tclone_any (l : List Tok) (a : Option Addr) (n c : Nat) (w : World) (hI : TokIn w a n l) (ha : (a = none ∧ n = 0 ∧ c = 0) ∨ ∃ g o, a = some ⟨g, o, none⟩) (hn : n ≤ 1000000) :
    Calls Try.prog 67 #[.slice a n c] w fun e w' => TCloneP l n w e w' := by
  rcases ha with ⟨rfl, rfl, rfl⟩ | ⟨g, o, rfl⟩
  · have HI := Lib.hid hI
    have hnil : ∀ w, (binOp .eql 35 (.slice none 0 0) (.slice none 0 0)).run Try.prog w = .ok (.bool true) w := fun w => Lib.run_eql_slice_nil w 35 40 none 0 0 0 0 Try.underlying35
    clear hI
    go_enter Try.func67, Try.ntmps67
    go_wp2
    go_ret
    exact ⟨_, rfl, by rw [List.eq_nil_of_length_eq_zero HI.out.len]; exact Row.nil _ _ _, fun k h => (by cases h), Upd.refl _ _⟩
  · obtain ⟨i0, hi, hz0, hz1, hz2⟩ := info_parts infoTok
    have hnil : ∀ w, (binOp .eql 35 (.slice (some ⟨g, o, none⟩) n c) (.slice none 0 0)).run Try.prog w = .ok (.bool false) w := fun w => Lib.run_eql_slice_nil w 35 40 (some ⟨g, o, none⟩) n c 0 0 Try.underlying35
    have HF := Lib.hid hI.fit
    have HL : Hid ((tcs l).length = n * 3) := Lib.hid (by rw [tcs_len, hI.len])
    have HN : Hid (∀ j u, (tcs l)[j]? = some u → (w.alloc (.cells #[] 40)).cell? ((⟨g, o, none⟩ : Addr).add j) = some u) := Lib.hid (fun j u hj => by
      have h7 := hI.cells g o rfl j u hj
      rw [add_flat]
      exact (((Upd.refl [] w).alloc (.cells #[] 40)).cell (World.block_lt_of_cell? w _ h7) (by simp)).trans h7)
    clear hI
    go_enter Try.func67, Try.ntmps67
    go_wp2_with (at_builtin; refine wpList_app _ rfl _ _ 35 rfl 40 i0 _ 3 24 Try.underlying35 hi hz0 hz1 hz2 rfl (by omega) (.slice (some ⟨w.heap.size, 0, none⟩) 0 0) 0 [] rfl (Row.new w [] 40 0 3 (by unfold maxLen; omega) rfl) ⟨g, o, none⟩ n c (tcs l) rfl HL.out HN.out (tcs_one _) (by unfold maxLen; omega) (by omega) ?_)
    intro v5 w5 hR5 hU5 hT5
    have HR5 := Lib.hid hR5
    have HB5 : Hid (∀ k, v5.ownBlock = some k → w.heap.size ≤ k) := Lib.hid (fun k hk => by
      rcases hT5 with h | ⟨g', h1, h2⟩
      · rw [hk] at h
        simp [Value.ownBlock] at h
        omega
      · rw [hk] at h1
        cases h1
        have := ((Upd.refl [] w).alloc (.cells #[] 40)).size
        omega)
    have HU : Hid (Upd [] w w5) := Lib.hid (((Upd.refl [] w).alloc (.cells #[] 40)).trans hU5 (fun k hk => by
      simp [Value.ownBlock] at hk
      exact .inr (by omega)))
    clear hR5 hU5 hT5
    go_wp2
    go_ret
    exact ⟨_, rfl, HR5.out, HB5.out, HU.out⟩
end Go.Proofs.Ytdehkaknbmbieaa
namespace Go.Proofs.Ytdehkaknbmbieaa
set_option linter.unusedVariables false
set_option linter.unusedSimpArgs false
set_option linter.unusedSectionVars false
open Go.RowKit
attribute [local go_sem] Oper.semAt_some
set_option linter.unusedVariables false
set_option linter.unusedSimpArgs false

/-- A text's bytes as tokens. -/
def plainT (bs : List Nat) : List Tok := bs.map fun b => ⟨b, 0, 0⟩
theorem plainT_snoc (bs : List Nat) (b : Nat) : plainT (bs ++ [b]) = plainT bs ++ [⟨b, 0, 0⟩] := by simp [plainT]
theorem tcs_append (l r : List Tok) : tcs (l ++ r) = tcs l ++ tcs r := by unfold tcs; rw [List.flatMap_append]
theorem tcs_single (t : Tok) : tcs [t] = t.cs := by simp [tcs]
def LzPlainP (bs : List Nat) (w : World) (e : Ending) (w' : World) : Prop := ∃ v, e = .returned v ∧ Row w' 40 3 v bs.length (tcs (plainT bs)) ∧ (∀ k, v.ownBlock = some k → w.heap.size ≤ k) ∧ Upd [] w w'
set_option maxRecDepth 100000 in
set_option maxHeartbeats 6400000 in
theorem lzplain_any (S : ByteArray) (w : World) (hs : S.size ≤ 65000) :
    Calls Try.prog 119 #[.string S] w fun e w' => LzPlainP (bytesOf S) w e w' := by
  obtain ⟨i0, hi, jz0, jz1, jz2⟩ := info_parts infoTok
  have HBL := Lib.hid (length_bytesOf S)
  have hsz : ¬ (65000 : Int) < (S.size : Int) := by omega
  go_enter Try.func119, Try.ntmps119
  go_wp2
  go_loopg [2, 9] 70000 (fun gg s2 s9 wr => ∃ i : Nat, i ≤ S.size ∧ gg = 70000 - i ∧ s9 = .int .i64 (i : Nat) ∧ Hid (Row wr 40 3 s2 i (tcs (plainT ((bytesOf S).take i)))) ∧ Hid (∀ k, s2.ownBlock = some k → w.heap.size ≤ k) ∧ Hid (Upd [] w wr))
  case atStart => exact ⟨0, by omega, by omega, rfl, Lib.hid (Row.nil _ _ _), Lib.hid (fun k h => by cases h), Lib.hid (Upd.refl _ _)⟩
  case round =>
    obtain ⟨i, hin, rfl, rfl, HR, HO, HU⟩ := hrel
    obtain ⟨va, vc, rfl⟩ := HR.out.form
    by_cases hc : i < S.size
    · have hcz : (i : Int) < (S.size : Int) := by omega
      have hil : i < (bytesOf S).length := by rw [HBL.out]; exact hc
      have hw1 : IntKind.i64.wrap ((i : Int) + 1) = ((i + 1 : Nat) : Int) := by rw [IntWalk.i64_in _ (by omega)]; rfl
      have HTK : Hid (tcs (plainT ((bytesOf S).take (i + 1))) = tcs (plainT ((bytesOf S).take i)) ++ [.int .u8 ((S[i]'hc).toNat : Nat), .int .i64 0, .int .i64 0]) := Lib.hid (by
        rw [List.take_succ_eq_append_getElem hil, plainT_snoc, tcs_append, tcs_single, bytesOf_get S i hc hil]
        rfl)
      have hRz := HR.out.alloc (.cells #[(.int .u8 ((S[i]'hc).toNat : Nat) : Value), .int .i64 0, .int .i64 0] 40)
      have HNW : Hid (∀ j u, ([(.int .u8 ((S[i]'hc).toNat : Nat) : Value), .int .i64 0, .int .i64 0] : List Value)[j]? = some u → (wr.alloc (.cells #[(.int .u8 ((S[i]'hc).toNat : Nat) : Value), .int .i64 0, .int .i64 0] 40)).cell? ((⟨wr.heap.size, 0, none⟩ : Addr).add j) = some u) := Lib.hid (World.news_of_block (cs := #[(.int .u8 ((S[i]'hc).toNat : Nat) : Value), .int .i64 0, .int .i64 0]) (t := 40) (fr := (0, 0)) (heap_alloc_new _ _))
      have HST : Hid (∀ v ∈ ([(.int .u8 ((S[i]'hc).toNat : Nat) : Value), .int .i64 0, .int .i64 0] : List Value), v.oneCell' = true) := Lib.hid (by simp [Value.oneCell'])
      go_wp2_with (at_builtin; refine wpList_app _ rfl _ _ 35 rfl 40 i0 _ 3 24 Try.underlying35 hi jz0 jz1 jz2 rfl (by omega) (.slice va i vc) i _ rfl hRz ⟨wr.heap.size, 0, none⟩ 1 1 [(.int .u8 ((S[i]'hc).toNat : Nat) : Value), .int .i64 0, .int .i64 0] rfl rfl HNW.out HST.out (by unfold maxLen; omega) (by omega) ?_)
      intro v5 w5 hR5 hU5 hT5
      rw [← HTK.out] at hR5
      have HR5 := Lib.hid hR5
      have HO5 : Hid (∀ k, v5.ownBlock = some k → w.heap.size ≤ k) := Lib.hid (fun k hk => by
        rcases hT5 with h | ⟨g', h1, h2⟩
        · exact HO.out k (by rw [← h]; exact hk)
        · rw [hk] at h1
          cases h1
          have := (HU.out.alloc (.cells #[(.int .u8 ((S[i]'hc).toNat : Nat) : Value), .int .i64 0, .int .i64 0] 40)).size
          omega)
      have HU5 : Hid (Upd [] w w5) := Lib.hid ((HU.out.alloc (.cells #[(.int .u8 ((S[i]'hc).toNat : Nat) : Value), .int .i64 0, .int .i64 0] 40)).trans hU5 (fun k hk => .inr (HO.out k (by simpa using hk))))
      clear hR5 hU5 hT5 hRz HNW HST
      go_wp2
      go_roundg (70000 - (i + 1))
      · exact ⟨i + 1, by omega, by first | rfl | omega, by first | rfl | go_num, HR5, HO5, HU5⟩
      · omega
    · have hcz : ¬ (i : Int) < (S.size : Int) := by omega
      obtain rfl : i = S.size := by omega
      have HR2 : Hid (Row wr 40 3 (.slice va S.size vc) (bytesOf S).length (tcs (plainT (bytesOf S)))) := Lib.hid (by
        have := HR.out
        rw [List.take_of_length_le (by rw [HBL.out]; exact Nat.le_refl _)] at this
        rw [HBL.out]; exact this)
      go_wp2
      go_ret
      exact ⟨_, rfl, HR2.out, HO.out, HU.out⟩
end Go.Proofs.Ytdehkaknbmbieaa

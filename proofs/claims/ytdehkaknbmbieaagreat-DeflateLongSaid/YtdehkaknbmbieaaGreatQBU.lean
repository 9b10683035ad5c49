/- Plain mathematics of what is written and read again: bits of packed bytes; codes of symbols read bit by bit; costs. -/
import Derived.Test.YtdehkaknbmbieaaGreatQBO
import Derived.Test.YtdehkaknbmbieaaGreatQBD
import Derived.Laws.CopyOwn
import Derived.Test.YtdehkaknbmbieaaGreatQAZ
import Derived.Test.YtdehkaknbmbieaaGreatQBT
namespace Go.Proofs.YtdehkaknbmbieaaGreat
set_option linter.unusedVariables false
set_option linter.unusedSimpArgs false
set_option linter.unusedSectionVars false
open Go.RowKit
set_option linter.unusedVariables false

theorem IntsIn.far {w w' : World} {a : Option Addr} {len : Nat} {l : List Int} {fp : List Nat} (h : IntsIn w a len l) (hU : Upd fp w w') (hf : ∀ k ∈ fp, w.heap.size ≤ k) : IntsIn w' a len l :=
  ⟨h.len, fun i hi => by
    obtain ⟨b, off, e, c, r⟩ := h.cell i hi
    have hb : b < w.heap.size := World.block_lt_of_cell? w _ c
    exact ⟨b, off, e, (hU.at hb (fun hm => by have := hf b hm; omega) _).trans c, r⟩⟩

theorem val_pad (L : List Bool) (k a n : Nat) : val (((L ++ List.replicate k false).drop a).take n) = val ((L.drop a).take n) := by
  rw [List.drop_append, List.take_append, val_append, List.drop_replicate, List.take_replicate, val_replicate_false]; simp
theorem textBits_outs (L : List Bool) (m : Nat) (h : 8 * m ≤ L.length) : textBits (outs L m) = L.take (8 * m) := by
  induction m with
  | zero => simp [outs, textBits]
  | succ m ih =>
    rw [outs_succ, textBits_snoc, ih (by omega)]
    have h1 : ((L.drop (8 * m)).take 8).length = 8 := by rw [List.length_take, List.length_drop]; omega
    have h2 := low_val ((L.drop (8 * m)).take 8)
    rw [h1] at h2
    rw [chunk, h2, ← List.take_add]; rfl
theorem textBits_pack (L : List Bool) : textBits (pack L) = alignL L := by
  have e : pack L = outs (alignL L) ((L.length + 7) / 8) := by
    unfold pack outs
    apply List.map_congr_left
    intro i _
    unfold chunk alignL
    rw [val_pad]
  rw [e, textBits_outs _ _ (by rw [length_alignL]; omega), ← length_alignL, List.take_length]
theorem pack_lt (L : List Bool) : ∀ x ∈ pack L, x < 256 := outs_lt L _
theorem sbits_pack (L : List Bool) : sbits (strOf (pack L)) = alignL L := by
  rw [sbits, bytesOf_strOf _ (pack_lt L), textBits_pack]
theorem size_pack (L : List Bool) : (strOf (pack L)).size = (L.length + 7) / 8 := by rw [size_strOf, pack, length_outs]
/-- A number read out of what was written. -/
theorem rdVal_mid (A M B : List Bool) (n a : Nat) (h : a + n ≤ M.length) : rdVal (strOf (pack (A ++ M ++ B))) (A.length + a) n = val ((M.drop a).take n) := by
  unfold rdVal
  rw [sbits_pack, alignL, List.append_assoc, List.append_assoc, ← List.drop_drop, List.drop_left, List.drop_append_of_le_length (by omega), List.take_append_of_le_length (by rw [List.length_drop]; omega)]

theorem turnN_div (v k j : Nat) (h : j ≤ k) : turnN v k / 2 ^ j = turnN v (k - j) := by
  induction j with
  | zero => simp
  | succ j ih =>
    rw [Nat.pow_succ, ← Nat.div_div_eq_div_mul, ih (by omega)]
    have e : turnN v (k - j) = 2 * turnN v (k - (j + 1)) + v / 2 ^ (k - (j + 1)) % 2 := by
      rw [show k - j = (k - (j + 1)) + 1 by omega]; rfl
    have : v / 2 ^ (k - (j + 1)) % 2 < 2 := Nat.mod_lt _ (by omega)
    omega
theorem turnN_bit (v k j : Nat) (h : j < k) : turnN v k / 2 ^ j % 2 = v / 2 ^ (k - 1 - j) % 2 := by
  rw [turnN_div v k j (by omega), show k - j = (k - 1 - j) + 1 by omega]
  simp only [turnN]
  omega
theorem fst_grow (n : List Nat) (j m : Nat) : 2 ^ (m + 1) * (fst n j + cnt n j) ≤ fst n (j + m + 1) := by
  induction m with
  | zero => simp [fst]
  | succ m ih =>
    have e : fst n (j + (m + 1) + 1) = 2 * (fst n (j + m + 1) + cnt n (j + m + 1)) := rfl
    rw [e, Nat.pow_succ, Nat.mul_comm (2 ^ (m + 1)) 2, Nat.mul_assoc]
    omega
/-- A code's beginning lies behind all shorter codes. -/
theorem code_above (n : List Nat) (k j c : Nat) (hj : j < k) (hc : fst n k ≤ c) : fst n j + cnt n j ≤ c / 2 ^ (k - j) := by
  have h := fst_grow n j (k - j - 1)
  rw [show j + (k - j - 1) + 1 = k by omega, show k - j - 1 + 1 = k - j by omega] at h
  rw [Nat.le_div_iff_mul_le (Nat.two_pow_pos _), Nat.mul_comm]
  omega
theorem half_bit (c m : Nat) : 2 * (c / 2 ^ (m + 1)) + c / 2 ^ m % 2 = c / 2 ^ m := by
  rw [Nat.pow_succ, ← Nat.div_div_eq_div_mul]; omega
/-- A symbol's code is read as the symbol. -/
theorem nxtF_code (n : List Nat) (s : ByteArray) (S k c a : Nat) (hk : n.getD S 0 = k) (hk1 : 1 ≤ k) (hS : S < n.length) (hc : codeAt n S = c)
    (hb : ∀ j, j < k → rdVal s (a + j) 1 = c / 2 ^ (k - 1 - j) % 2) (hs : a + k ≤ 8 * s.size) :
    ∀ d j f, d + j + 1 = k → d + 1 ≤ f → nxtF n s f (j + 1) (a + j) (c / 2 ^ (d + 1)) = (some S, a + k, false) := by
  have hfc : fst n k ≤ c := by
    rw [← hc]; unfold codeAt; rw [hk, if_neg (by omega)]; omega
  intro d
  induction d with
  | zero =>
    intro j f hj hf
    obtain ⟨f, rfl⟩ : ∃ f', f = f' + 1 := ⟨f - 1, by omega⟩
    have e : 2 * (c / 2 ^ (0 + 1)) + rdVal s (a + j) 1 = c := by
      rw [hb j (by omega), show k - 1 - j = 0 by omega, half_bit]; simp
    have hsy : symAt n (j + 1) c = some S := by
      rw [show j + 1 = k by omega, ← hc]; exact symAt_code n S k hk1 hS hk
    rw [nxtF_some (by omega) (by rw [e]; exact hsy)]
    have : a + j + 1 = a + k := by omega
    rw [this]
  | succ d ih =>
    intro j f hj hf
    obtain ⟨f, rfl⟩ : ∃ f', f = f' + 1 := ⟨f - 1, by omega⟩
    have e : 2 * (c / 2 ^ (d + 1 + 1)) + rdVal s (a + j) 1 = c / 2 ^ (d + 1) := by
      rw [hb j (by omega), show k - 1 - j = d + 1 by omega, half_bit]
    have hab := code_above n k (j + 1) c (by omega) hfc
    rw [show k - (j + 1) = d + 1 by omega] at hab
    have hsy : symAt n (j + 1) (c / 2 ^ (d + 1)) = none := symAt_none' _ _ _ (by omega)
    rw [nxtF_none (by omega) (by rw [e]; exact hsy), e, Nat.add_assoc a j 1]
    exact ih (j + 1) f (by omega) (by omega)
theorem val_bit1 (k t j : Nat) (h : j < k) : val (((low k t).drop j).take 1) = t / 2 ^ j % 2 := by
  rw [val_take _ _ (by rw [List.length_drop, length_low]; omega), val_drop _ _ (by rw [length_low]; omega), val_low]
  have e : 2 ^ k = 2 ^ j * 2 ^ (k - j) := by rw [← Nat.pow_add]; congr 1; omega
  rw [e, Nat.mod_mul_right_div_self, show k - j = (k - j - 1) + 1 by omega, Nat.pow_succ, Nat.pow_one, Nat.mod_mul_left_mod]
/-- Of written symbols the one behind A is read. -/
theorem nxt_back (n : List Nat) (A B : List Bool) (S : Nat) (hps : psum n 16 ≤ 32768) (h15 : ∀ x ∈ n, x ≤ 15) (hS : S < n.length) (h0 : n.getD S 0 ≠ 0) :
    nxt n (strOf (pack (A ++ symBits n S ++ B))) A.length false = (some S, (A ++ symBits n S).length, false) := by
  have hc := codeAt_lt n hps h15 S hS
  have hk15 : n.getD S 0 ≤ 15 := by rw [List.getD, List.getElem?_eq_getElem hS]; exact h15 _ (List.getElem_mem hS)
  have h := nxtF_code n (strOf (pack (A ++ symBits n S ++ B))) S (n.getD S 0) (codeAt n S) A.length rfl (by omega) hS rfl (fun j hj => by
      rw [rdVal_mid _ _ _ _ _ (by rw [length_symBits]; omega), symBits, val_bit1 _ _ _ hj, turnN_bit _ _ _ hj])
    (by rw [size_pack, List.length_append, List.length_append, length_symBits]; omega) (n.getD S 0 - 1) 0 15 (by omega) (by omega)
  rw [show n.getD S 0 - 1 + 1 = n.getD S 0 by omega, Nat.div_eq_of_lt hc.2] at h
  rw [List.length_append, length_symBits]
  exact h

end Go.Proofs.YtdehkaknbmbieaaGreat
namespace Go.Proofs.YtdehkaknbmbieaaGreat
set_option linter.unusedVariables false
set_option linter.unusedSimpArgs false
set_option linter.unusedSectionVars false
open Go.RowKit
set_option linter.unusedVariables false

theorem IntsIn.of_row {w : World} {g n cap : Nat} {U : List Nat} (h : Row w 3 1 (.slice (some ⟨g, 0, none⟩) n cap) n (i64s U)) (hb : ∀ x ∈ U, x ≤ 1099511627776) : IntsIn w (some ⟨g, 0, none⟩) (U.map fun x : Nat => (x : Int)).length (U.map fun x : Nat => (x : Int)) :=
  ⟨rfl, fun i hi => by
    have hi' : i < U.length := by simpa using hi
    refine ⟨g, 0, rfl, ?_, ?_⟩
    · rw [Nat.zero_add, Row.cell h i (i64s_get _ _ _ (List.getElem?_eq_getElem hi'))]; simp
    · have := hb _ (List.getElem_mem hi')
      simp only [List.getElem_map]; omega⟩
theorem bind_ok {α β : Type} {x : Except Nat α} {f : α → Except Nat β} {y : β} (h : x >>= f = .ok y) : ∃ r, x = .ok r ∧ f r = .ok y := by
  cases x with
  | error c => cases h
  | ok r => exact ⟨r, rfl, h⟩
theorem map_ok {α β : Type} {x : Except Nat α} {f : α → β} {y : β} (h : x.map f = .ok y) : ∃ r, x = .ok r ∧ f r = y := by
  cases x with
  | error c => cases h
  | ok r => cases h; exact ⟨r, rfl, rfl⟩

def fixA : List Int := ints (fixP 4)
def fixB : List Int := ints (List.replicate 32 5)
def tabSyms (s : ByteArray) (most F : Nat) (out : List Nat) (r : (List Nat × List Nat) × Nat) : Except Nat (List Nat × Nat) := symsP (ints r.1.1) (ints r.1.2) s most F out r.2
/-- What a block of this kind makes. -/
def kindP (s : ByteArray) (most F : Nat) (out : List Nat) (r : Nat × Nat) : Except Nat (List Nat × Nat) :=
  if r.1 = 0 then storeP s most out r.2 else
    if r.1 = 1 then symsP fixA fixB s most F out r.2 else
      if r.1 = 2 then tablesP s r.2 >>= tabSyms s most F out else .error 2
def lastP (k : Nat) (q : List Nat × Nat) : Except Nat ((Bool × List Nat) × Nat) := .ok ((k == 1, q.1), q.2)
def blockP (s : ByteArray) (most F : Nat) (out : List Nat) (a : Nat) : Except Nat ((Bool × List Nat) × Nat) :=
  takeP s a 1 >>= fun r => (takeP s r.2 2 >>= kindP s most F out) >>= lastP r.1

theorem alTo_ge (a : Nat) : a ≤ alTo a false := by unfold alTo; simp; omega
theorem storeP_adv {s : ByteArray} {most : Nat} {out out' : List Nat} {a a' : Nat} (h : storeP s most out a = .ok (out', a')) : a ≤ a' := by
  obtain ⟨r, h1, h2⟩ := bind_ok h
  obtain ⟨r2, h3, h4⟩ := bind_ok h2
  have e1 := takeP_adv h1
  have e2 := takeP_adv h3
  have e0 := alTo_ge a
  unfold storeEnd at h4
  split at h4
  · split at h4
    · cases h4
    · rename_i hb
      split at h4
      · cases h4
        unfold txTo
        rw [if_neg hb]
        omega
      · cases h4
  · cases h4
theorem symsP_adv {l1 l2 : List Int} {s : ByteArray} {most : Nat} : ∀ (g : Nat) {out out' : List Nat} {a a' : Nat}, symsP l1 l2 s most g out a = .ok (out', a') → a ≤ a' := by
  intro g
  induction g with
  | zero => intro out out' a a' h; cases h
  | succ g ih =>
    intro out out' a a' h
    obtain ⟨⟨sym, a1⟩, h1, h2⟩ := bind_ok h
    have e1 := nextP_adv h1
    unfold symStep at h2
    simp only at h2
    split at h2
    · cases h2; omega
    · split at h2
      · split at h2
        · have := ih h2; omega
        · cases h2
      · obtain ⟨⟨o, a2⟩, h3, h4⟩ := bind_ok h2
        have e2 := copyP_adv h3
        have := ih h4
        simp only at this
        omega
theorem againP_adv {s : ByteArray} {sym : Nat} {L : List Nat} {a a' : Nat} {r : Nat × Nat} (h : againP s sym L a = .ok (r, a')) : a ≤ a' := by
  unfold againP at h
  split at h
  · split at h
    · cases h
    · obtain ⟨q, h1, h2⟩ := map_ok h; have := takeP_adv h1; cases h2; exact this
  · split at h
    · obtain ⟨q, h1, h2⟩ := map_ok h; have := takeP_adv h1; cases h2; exact this
    · obtain ⟨q, h1, h2⟩ := map_ok h; have := takeP_adv h1; cases h2; exact this
theorem oneP_adv {s : ByteArray} {k : Nat} {L : List Nat} {a a' : Nat} {r : Nat × Nat} (h : oneP s k L a = .ok (r, a')) : a ≤ a' := by
  unfold oneP at h
  split at h
  · exact againP_adv h
  · cases h; omega
theorem rowP_adv {l : List Int} {s : ByteArray} {many : Nat} : ∀ (f : Nat) {L L' : List Nat} {a a' : Nat}, rowP l s many f L a = .ok (L', a') → a ≤ a' := by
  intro f
  induction f with
  | zero => intro L L' a a' h; cases h; omega
  | succ f ih =>
    intro L L' a a' h
    simp only [rowP] at h
    split at h
    · split at h
      · cases h
      · rename_i r hr
        have e1 := nextP_adv (x := r.1) (a' := r.2) hr
        split at h
        · cases h
        · rename_i q hq
          have e2 := oneP_adv (r := q.1) (a' := q.2) hq
          split at h
          · have := ih h; omega
          · cases h
    · cases h; omega
theorem firstP_adv {s : ByteArray} : ∀ (m : Nat) {i : Nat} {L L' : List Nat} {a a' : Nat}, firstP s m i L a = .ok (L', a') → a ≤ a' := by
  intro m
  induction m with
  | zero => intro i L L' a a' h; cases h; omega
  | succ m ih =>
    intro i L L' a a' h
    simp only [firstP] at h
    split at h
    · cases h
    · rename_i r hr
      have e1 := takeP_adv (v := r.1) (a' := r.2) hr
      have := ih h
      omega
/-- What tables that are right give. -/
theorem tablesP_ok {s : ByteArray} {a a' : Nat} {A B : List Nat} (h : tablesP s a = .ok ((A, B), a')) : a ≤ a' ∧ A.length ≤ 286 ∧ B.length ≤ 30 ∧ ∀ x ∈ A ++ B, x ≤ 15 := by
  obtain ⟨⟨n, a1⟩, h1, h⟩ := bind_ok h
  obtain ⟨⟨m, a2⟩, h2, h⟩ := bind_ok h
  obtain ⟨⟨k, a3⟩, h3, h⟩ := bind_ok h
  have e1 := takeP_adv h1
  have e2 := takeP_adv h2
  have e3 := takeP_adv h3
  simp only at e2 e3 h
  unfold tabFirst at h
  split at h
  · rename_i hnm
    obtain ⟨⟨L, a4⟩, h4, h⟩ := bind_ok h
    have e4 := firstP_adv _ h4
    unfold tabRow at h
    split at h
    · obtain ⟨⟨L', a5⟩, h5, h⟩ := bind_ok h
      have e5 := rowP_adv _ h5
      obtain ⟨hl, h15⟩ := rowP_ok _ _ _ _ _ (by simp) (by simp) (by simp) h5
      unfold tabEnd at h
      split at h
      · split at h
        · cases h
          dsimp only at *
          refine ⟨by omega, by rw [List.length_take]; omega, by rw [List.length_drop]; omega, ?_⟩
          rw [List.take_append_drop]; exact h15
        · cases h
      · cases h
    · cases h
  · cases h
theorem kindP_adv {s : ByteArray} {most F k : Nat} {out out' : List Nat} {a a' : Nat} (h : kindP s most F out (k, a) = .ok (out', a')) : a ≤ a' := by
  unfold kindP at h
  split at h
  · exact storeP_adv h
  · split at h
    · exact symsP_adv _ h
    · split at h
      · obtain ⟨⟨⟨A, B⟩, a1⟩, h1, h2⟩ := bind_ok h
        have := (tablesP_ok h1).1
        have := symsP_adv _ (show symsP (ints A) (ints B) s most F out a1 = .ok (out', a') from h2)
        simp only at *
        omega
      · cases h
theorem takeP_to {s : ByteArray} {a n v a' : Nat} (h : takeP s a n = .ok (v, a')) : a' = a + n := by
  unfold takeP at h
  split at h
  · cases h; rfl
  · cases h
theorem blockP_adv {s : ByteArray} {most F : Nat} {out out' : List Nat} {a a' : Nat} {l : Bool} (h : blockP s most F out a = .ok ((l, out'), a')) : a < a' := by
  obtain ⟨⟨v, a1⟩, h1, h⟩ := bind_ok h
  obtain ⟨⟨o, a3⟩, h2, h3⟩ := bind_ok h
  obtain ⟨⟨k, a2⟩, h4, h5⟩ := bind_ok h2
  have e1 := takeP_to h1
  have e2 := takeP_to h4
  have e3 := kindP_adv h5
  unfold lastP at h3
  cases h3
  simp only at e2 e3 ⊢
  omega

/-- Behind a block. -/
def BlockPost (w : World) (x b : Nat) (v : Value) (s : ByteArray) (most : Nat) (r : Except Nat ((Bool × List Nat) × Nat)) (e : Ending) (w' : World) : Prop :=
  match r with
  | .ok ((l, out), a') => e = .returned (.bool l) ∧ ∃ v', StAt w' x b v' s a' out most ∧ Upd (stFp x b v) w w' ∧ Later w v v'
  | .error c => e = .panicked [{ v := .iface 35 (.int .i64 (c : Nat)), recovered := false }] ∧ Upd (stFp x b v) w w'
theorem fix_lens : fixA.length = 288 ∧ fixB.length = 32 := by
  have hL4 : (fixP 4).length = 288 := by
    unfold fixP fixRows
    simp only [List.take_succ_cons, List.take_nil, List.flatMap_cons, List.flatMap_nil, List.length_append, List.length_replicate, List.length_nil]
  exact ⟨by unfold fixA; rw [length_ints, hL4], by unfold fixB; rw [length_ints]; simp⟩
theorem fixP_le (x : Nat) (h : x ∈ fixP 4) : x ≤ 9 := by
  unfold fixP fixRows at h
  simp only [List.take_succ_cons, List.take_nil, List.flatMap_cons, List.flatMap_nil, List.mem_append, List.mem_replicate, List.not_mem_nil, or_false] at h
  omega
theorem fixed_ok (w : World) : Calls Tryz.prog 23 #[] w fun e w' => ∃ a1 c1 a2, e = .returned (.tuple #[.slice a1 288 c1, .slice a2 32 32]) ∧ IntsIn w' a1 288 fixA ∧ IntsIn w' a2 32 fixB ∧ Upd [] w w' := by
  refine (fixed_any w).mono ?_
  rintro e w' ⟨g1, c1, g2, rfl, hR1, hR2, hU, _, _⟩
  refine ⟨_, c1, _, rfl, ?_, ?_, hU⟩
  · have h := IntsIn.of_row hR1 (fun x hx => Nat.le_trans (fixP_le x hx) (by omega))
    have e := fix_lens.1
    unfold fixA ints at e ⊢
    rw [e] at h
    exact h
  · have h := IntsIn.of_row hR2 (fun x hx => by rw [(List.mem_replicate.1 hx).2]; omega)
    have e := fix_lens.2
    unfold fixB ints at e ⊢
    rw [e] at h
    exact h
theorem st_trans {w0 w w' : World} {x b : Nat} {v0 v : Value} (h1 : Upd (stFp x b v0) w0 w) (h2 : Later w0 v0 v) (hU : Upd (stFp x b v) w w') : Upd (stFp x b v0) w0 w' :=
  h1.trans hU (fun k hk => by
      simp only [stFp, List.mem_cons] at hk ⊢
      rcases hk with hk | hk | hk
      · exact .inl (.inl hk)
      · exact .inl (.inr (.inl hk))
      · exact (h2.fp k hk).imp (fun h => .inr (.inr h)) id)
theorem tables_ok {b : Nat} {w : World} {s : ByteArray} {a a' : Nat} {A B : List Nat} (hR : RdAt w b 123 s a false) (hs : s.size ≤ 1099511627776) (h : tablesP s a = .ok ((A, B), a')) :
    Calls Tryz.prog 80 #[.agg #[.pointer (some ⟨b, 0, none⟩)]] w fun e w' => ∃ g cap, e = .returned (.tuple #[.slice (some ⟨g, 0, none⟩) A.length cap, .slice (some ⟨g, A.length, none⟩) B.length (cap - A.length)]) ∧
      IntsIn w' (some ⟨g, 0, none⟩) A.length (ints A) ∧ IntsIn w' (some ⟨g, A.length, none⟩) B.length (ints B) ∧ RdAt w' b 123 s a' false ∧ Upd [b] w w' ∧ w.heap.size ≤ g := by
  have h1 := tables_any b w s a hR hs
  rw [h] at h1
  refine h1.mono ?_
  rintro e w' ⟨g, n, cap, rfl, rfl, hRow, hR', hU, hg⟩
  have h15 : ∀ x ∈ A ++ B, x ≤ 1099511627776 := fun x hx => Nat.le_trans ((tablesP_ok h).2.2.2 x hx) (by omega)
  refine ⟨g, cap, rfl, ?_, ?_, hR', hU, hg⟩
  · have := IntsIn.part hRow h15 0 A.length (by simp)
    rw [List.drop_zero, List.take_left' rfl, length_ints] at this
    exact this
  · have := IntsIn.part hRow h15 A.length B.length (by simp)
    rw [List.drop_left' rfl, List.take_of_length_le (Nat.le_refl _), length_ints] at this
    exact this
theorem tables_err {b : Nat} {w : World} {s : ByteArray} {a c : Nat} (hR : RdAt w b 123 s a false) (hs : s.size ≤ 1099511627776) (h : tablesP s a = .error c) :
    Calls Tryz.prog 80 #[.agg #[.pointer (some ⟨b, 0, none⟩)]] w fun e w' => e = .panicked [{ v := .iface 35 (.int .i64 (c : Nat)), recovered := false }] ∧ Upd [b] w w' := by
  have h1 := tables_any b w s a hR hs
  rwa [h] at h1
theorem store_ok {x b : Nat} {v : Value} {w : World} {s : ByteArray} {a : Nat} {out : List Nat} {most : Nat} {out' : List Nat} {a' : Nat} (h : StAt w x b v s a out most) (hs : s.size ≤ 1099511627776) (hc : storeP s most out a = .ok (out', a')) :
    Calls Tryz.prog 78 #[.pointer (some ⟨x, 0, none⟩)] w fun e w' => e = .returned (.tuple #[]) ∧ ∃ v', StAt w' x b v' s a' out' most ∧ Upd (stFp x b v) w w' ∧ Later w v v' := by
  have := store_any x b v w s a out most h hs
  rwa [hc] at this
theorem store_err {x b : Nat} {v : Value} {w : World} {s : ByteArray} {a : Nat} {out : List Nat} {most c : Nat} (h : StAt w x b v s a out most) (hs : s.size ≤ 1099511627776) (hc : storeP s most out a = .error c) :
    Calls Tryz.prog 78 #[.pointer (some ⟨x, 0, none⟩)] w fun e w' => e = .panicked [{ v := .iface 35 (.int .i64 (c : Nat)), recovered := false }] ∧ Upd (stFp x b v) w w' := by
  have := store_any x b v w s a out most h hs
  rwa [hc] at this
theorem symbols_ok {x b F : Nat} {a1 a2 : Option Addr} {n1 c1 n2 c2 : Nat} {v : Value} {l1 l2 : List Int} {w : World} {s : ByteArray} {a : Nat} {out : List Nat} {most : Nat} {out' : List Nat} {a' : Nat} (h : StAt w x b v s a out most) (hs : s.size ≤ 1099511627776)
    (hI1 : IntsIn w a1 n1 l1) (hI2 : IntsIn w a2 n2 l2) (hl1 : l1.length ≤ 300) (hl2 : l2.length ≤ 300) (hF : 8 * s.size < F + a) (hc : symsP l1 l2 s most F out a = .ok (out', a')) :
    Calls Tryz.prog 79 #[.pointer (some ⟨x, 0, none⟩), .slice a1 n1 c1, .slice a2 n2 c2] w fun e w' => e = .returned (.tuple #[]) ∧ ∃ v', StAt w' x b v' s a' out' most ∧ Upd (stFp x b v) w w' ∧ Later w v v' := by
  have := symbols_any x b F a1 a2 n1 c1 n2 c2 v l1 l2 w s a out most h hs hI1 hI2 hl1 hl2 hF
  rwa [hc] at this
theorem symbols_err {x b F : Nat} {a1 a2 : Option Addr} {n1 c1 n2 c2 : Nat} {v : Value} {l1 l2 : List Int} {w : World} {s : ByteArray} {a : Nat} {out : List Nat} {most c : Nat} (h : StAt w x b v s a out most) (hs : s.size ≤ 1099511627776)
    (hI1 : IntsIn w a1 n1 l1) (hI2 : IntsIn w a2 n2 l2) (hl1 : l1.length ≤ 300) (hl2 : l2.length ≤ 300) (hF : 8 * s.size < F + a) (hc : symsP l1 l2 s most F out a = .error c) :
    Calls Tryz.prog 79 #[.pointer (some ⟨x, 0, none⟩), .slice a1 n1 c1, .slice a2 n2 c2] w fun e w' => e = .panicked [{ v := .iface 35 (.int .i64 (c : Nat)), recovered := false }] ∧ Upd (stFp x b v) w w' := by
  have := symbols_any x b F a1 a2 n1 c1 n2 c2 v l1 l2 w s a out most h hs hI1 hI2 hl1 hl2 hF
  rwa [hc] at this

set_option maxRecDepth 100000 in
set_option maxHeartbeats 6400000 in
theorem block_any (x b F : Nat) (v : Value) (w : World) (s : ByteArray) (a : Nat) (out : List Nat) (most : Nat) (h : StAt w x b v s a out most) (hs : s.size ≤ 1099511627776) (hF : 8 * s.size < F) :
    Calls Tryz.prog 41 #[.pointer (some ⟨x, 0, none⟩)] w (BlockPost w x b v s most (blockP s most F out a)) := by
  have HS := Lib.hid (show blockP s most F out a = (takeP s a 1 >>= fun r => (takeP s r.2 2 >>= kindP s most F out) >>= lastP r.1) by rfl)
  generalize blockP s most F out a = CP at *
  have c0 := h.blk.cell 0 rfl
  go_enter Tryz.func41, Tryz.ntmps41
  rcases takeP_cases s a 1 with ⟨l, hl, hla, htk⟩ | htk
  · have HE := Lib.hid (show CP = ((takeP s (a + 1) 2 >>= kindP s most F out) >>= lastP l) by rw [HS.out, htk]; rfl)
    clear HS
    go_wp2_with fail
    refine (take_ok h.rd hs (by omega) htk).mono ?_
    rintro e w1 ⟨rfl, hR1, hU1⟩
    have h1 := h.read hU1 hR1
    have hUw1 := upd_st (v := v) (x := x) hU1
    have c1 := h1.blk.cell 0 rfl
    obtain ⟨bl, hbl⟩ : ∃ bl, bl = (l == 1) := ⟨_, rfl⟩
    have hb1 : ((l : Int) == 1) = bl := by rw [hbl]; rcases l with _ | _ | l <;> first | rfl | omega
    have HBL := Lib.hid hbl
    clear hbl hR1 hU1 htk c0
    rcases takeP_cases s (a + 1) 2 with ⟨k, hk, hka, htk⟩ | htk
    · have hE : CP = (kindP s most F out (k, a + 1 + 2) >>= lastP l) := by rw [HE.out, htk]; rfl
      have HE := Lib.hid hE
      clear hE
      have hF1 : 8 * s.size < F + (a + 1 + 2) := by omega
      have hT0 := Later.refl w v
      rcases k with _ | _ | _ | k
      · go_wp2_with fail
        refine (take_ok h1.rd hs (by omega) htk).mono ?_
        rintro e w2 ⟨rfl, hR2, hU2⟩
        have h2 := h1.read hU2 hR2
        have hUw2 := hUw1.then (upd_st (v := v) (x := x) hU2)
        have hE : CP = (storeP s most out (a + 1 + 2) >>= lastP l) := HE.out
        cases hst : storeP s most out (a + 1 + 2) with
        | error c =>
          have HE := Lib.hid (show CP = .error c by rw [hE, hst]; rfl)
          clear hE
          go_wp2_with fail
          refine (store_err h2 hs hst).mono ?_
          rintro e w3 ⟨rfl, hU3⟩
          go_wp2
          rw [HE.out]
          exact ⟨rfl, rfl, hUw2.then hU3⟩
        | ok q =>
          obtain ⟨o, a5⟩ := q
          have HE := Lib.hid (show CP = .ok ((bl, o), a5) by rw [hE, hst, HBL.out]; rfl)
          clear hE
          go_wp2_with fail
          refine (store_ok h2 hs hst).mono ?_
          rintro e w3 ⟨rfl, v3, hS3, hU3, hT3⟩
          go_wp2
          go_returns
          rw [HE.out]
          exact ⟨rfl, v3, hS3, hUw2.then hU3, hT0.trans hUw2.size hT3⟩
      · go_wp2_with fail
        refine (take_ok h1.rd hs (by omega) htk).mono ?_
        rintro e w2 ⟨rfl, hR2, hU2⟩
        have h2 := h1.read hU2 hR2
        have hUw2 := hUw1.then (upd_st (v := v) (x := x) hU2)
        have hE : CP = (symsP fixA fixB s most F out (a + 1 + 2) >>= lastP l) := HE.out
        go_wp2_with fail
        refine (fixed_ok w2).mono ?_
        rintro e w3 ⟨p1, c1', p2, rfl, hI1, hI2, hU3⟩
        have h3 := h2.pure hU3
        have hUw3 := hUw2.then (upd_st0 (v := v) (x := x) (b := b) hU3)
        have hfl := fix_lens
        cases hst : symsP fixA fixB s most F out (a + 1 + 2) with
        | error c =>
          have HE := Lib.hid (show CP = .error c by rw [hE, hst]; rfl)
          clear hE
          go_wp2_with fail
          refine (symbols_err h3 hs hI1 hI2 (by omega) (by omega) hF1 hst).mono ?_
          rintro e w4 ⟨rfl, hU4⟩
          go_wp2
          rw [HE.out]
          exact ⟨rfl, rfl, hUw3.then hU4⟩
        | ok q =>
          obtain ⟨o, a5⟩ := q
          have HE := Lib.hid (show CP = .ok ((bl, o), a5) by rw [hE, hst, HBL.out]; rfl)
          clear hE
          go_wp2_with fail
          refine (symbols_ok h3 hs hI1 hI2 (by omega) (by omega) hF1 hst).mono ?_
          rintro e w4 ⟨rfl, v4, hS4, hU4, hT4⟩
          go_wp2
          go_returns
          rw [HE.out]
          exact ⟨rfl, v4, hS4, hUw3.then hU4, hT0.trans hUw3.size hT4⟩
      · go_wp2_with fail
        refine (take_ok h1.rd hs (by omega) htk).mono ?_
        rintro e w2 ⟨rfl, hR2, hU2⟩
        have h2 := h1.read hU2 hR2
        have c2 := h2.blk.cell 0 rfl
        have hUw2 := hUw1.then (upd_st (v := v) (x := x) hU2)
        have hE : CP = ((tablesP s (a + 1 + 2) >>= tabSyms s most F out) >>= lastP l) := HE.out
        cases htb : tablesP s (a + 1 + 2) with
        | error c =>
          have HE := Lib.hid (show CP = .error c by rw [hE, htb]; rfl)
          clear hE
          go_wp2_with fail
          refine (tables_err h2.rd hs htb).mono ?_
          rintro e w3 ⟨rfl, hU3⟩
          go_wp2
          rw [HE.out]
          exact ⟨rfl, rfl, hUw2.then (upd_st hU3)⟩
        | ok q =>
          obtain ⟨⟨A, B⟩, a4⟩ := q
          have hE2 : CP = (symsP (ints A) (ints B) s most F out a4 >>= lastP l) := by rw [hE, htb]; rfl
          obtain ⟨hadv, hAl, hBl, _⟩ := tablesP_ok htb
          have HE := Lib.hid hE2
          clear hE hE2
          go_wp2_with fail
          refine (tables_ok h2.rd hs htb).mono ?_
          rintro e w3 ⟨g, cap, rfl, hI1, hI2, hR3, hU3, hg⟩
          have h3 := h2.read hU3 hR3
          have hUw3 := hUw2.then (upd_st (v := v) (x := x) hU3)
          have hl1 := length_ints A
          have hl2 := length_ints B
          cases hst : symsP (ints A) (ints B) s most F out a4 with
          | error c =>
            have HE := Lib.hid (show CP = .error c by rw [HE.out, hst]; rfl)
            go_wp2_with fail
            refine (symbols_err h3 hs hI1 hI2 (by omega) (by omega) (by omega) hst).mono ?_
            rintro e w4 ⟨rfl, hU4⟩
            go_wp2
            rw [HE.out]
            exact ⟨rfl, rfl, hUw3.then hU4⟩
          | ok q =>
            obtain ⟨o, a5⟩ := q
            have HE := Lib.hid (show CP = .ok ((bl, o), a5) by rw [HE.out, hst, HBL.out]; rfl)
            go_wp2_with fail
            refine (symbols_ok h3 hs hI1 hI2 (by omega) (by omega) (by omega) hst).mono ?_
            rintro e w4 ⟨rfl, v4, hS4, hU4, hT4⟩
            go_wp2
            go_returns
            rw [HE.out]
            exact ⟨rfl, v4, hS4, hUw3.then hU4, hT0.trans hUw3.size hT4⟩
      · have HE := Lib.hid (show CP = .error 2 by rw [HE.out]; rfl)
        have hk0 : k = 0 := by omega
        subst hk0
        go_wp2_with fail
        refine (take_ok h1.rd hs (by omega) htk).mono ?_
        rintro e w2 ⟨rfl, hR2, hU2⟩
        go_wp2_with fail
        refine (must_no _).mono ?_
        rintro e w3 ⟨rfl, rfl⟩
        go_wp2
        rw [HE.out]
        exact ⟨rfl, rfl, hUw1.then (upd_st hU2)⟩
    · have HE := Lib.hid (show CP = .error 3 by rw [HE.out, htk]; rfl)
      go_wp2_with fail
      refine (take_err h1.rd hs (by omega) htk).mono ?_
      rintro e w2 ⟨rfl, hU2⟩
      go_wp2
      rw [HE.out]
      exact ⟨rfl, rfl, hUw1.then (upd_st hU2)⟩
  · have HE := Lib.hid (show CP = .error 3 by rw [HS.out, htk]; rfl)
    go_wp2_with fail
    refine (take_err h.rd hs (by omega) htk).mono ?_
    rintro e w1 ⟨rfl, hU1⟩
    go_wp2
    rw [HE.out]
    exact ⟨rfl, rfl, upd_st hU1⟩
end Go.Proofs.YtdehkaknbmbieaaGreat

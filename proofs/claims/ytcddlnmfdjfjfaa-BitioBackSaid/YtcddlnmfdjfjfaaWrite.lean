/- The walks of package huff: Write, near, Cost. -/
import Derived.Test.YtcddlnmfdjfjfaaHuffV
namespace Go.Proofs.Ytcddlnmfdjfjfaa
open Go.RowKit
set_option linter.unusedVariables false

/-- A symbol's bits; may symbols be written? -/
def symBits (n : List Nat) (i : Nat) : List Bool := low (n.getD i 0) (turnN (codeAt n i) (n.getD i 0))
def mayB (n : List Nat) (s : Int) : Bool := decide (0 ≤ s) && decide (s < (n.length : Int)) && decide (n.getD s.toNat 0 ≠ 0)
def mayAll (n : List Nat) (m : List Int) : Bool := m.all (mayB n)
def msgBits (n : List Nat) (m : List Int) : List Bool := m.flatMap fun s => symBits n s.toNat
theorem length_symBits (n : List Nat) (i : Nat) : (symBits n i).length = n.getD i 0 := by rw [symBits, length_low]
theorem mayAll_take {n : List Nat} {m : List Int} {i : Nat} (h : i < m.length) (h1 : mayAll n (m.take i) = true) (h2 : mayB n m[i] = true) : mayAll n (m.take (i + 1)) = true := by
  rw [take_snoc' m i h]; simp only [mayAll, List.all_append, List.all_cons, List.all_nil, Bool.and_true, Bool.and_eq_true] at *
  exact ⟨h1, h2⟩
theorem mayAll_not {n : List Nat} {m : List Int} {i : Nat} (h : i < m.length) (h2 : mayB n m[i] = false) : mayAll n m = false := by
  unfold mayAll
  rw [List.all_eq_false]
  exact ⟨m[i], List.getElem_mem h, by rw [h2]; decide⟩
theorem mayAll_at {n : List Nat} {m : List Int} {i : Nat} (h : i < m.length) (h1 : mayAll n m = true) : mayB n m[i] = true := by
  unfold mayAll at h1
  rw [List.all_eq_true] at h1
  exact h1 _ (List.getElem_mem h)
theorem msgBits_take (n : List Nat) {m : List Int} {i : Nat} (h : i < m.length) : msgBits n (m.take (i + 1)) = msgBits n (m.take i) ++ symBits n (m[i]).toNat := by
  unfold msgBits; rw [take_snoc' m i h, List.flatMap_append, List.flatMap_cons, List.flatMap_nil, List.append_nil]
theorem msgBits_le (n : List Nat) (m : List Int) (h : ∀ x ∈ n, x ≤ 15) : (msgBits n m).length ≤ 15 * m.length := by
  induction m with
  | nil => simp [msgBits]
  | cons x m ih =>
    have e : msgBits n (x :: m) = symBits n x.toNat ++ msgBits n m := rfl
    rw [e, List.length_append, length_symBits, List.length_cons]
    have : n.getD x.toNat 0 ≤ 15 := by
      rw [List.getD]
      by_cases hx : x.toNat < n.length
      · rw [List.getElem?_eq_getElem hx]; exact h _ (List.getElem_mem hx)
      · rw [List.getElem?_eq_none (by omega)]; simp
    omega

/-- Behind Write. -/
def WritePost (w : World) (b : Nat) (v : Value) (L : List Bool) (ok : Bool) (bits : List Bool) (e : Ending) (w' : World) : Prop :=
  e = .returned (.bool ok) ∧ ∃ v', WrAt w' b v' (L ++ bits) ((L ++ bits).length / 8) ∧ Upd (wrFp b v) w w' ∧ Later w v v'

set_option maxRecDepth 100000 in
set_option maxHeartbeats 3200000 in
/-- Write onto whatever, where not all symbols may be written, or the lengths are over: nothing is written. -/
theorem write_no (b : Value) (x y : Option Addr) (cx len cy : Nat) (l m : List Int) (w : World) (hm : len ≤ 9223372036854775807) (hx : l.length ≤ 9223372036854775807) (hI : IntsIn w x l.length l) (hM : IntsIn w y len m)
    (hno : (kindOf l ≠ 3 ∧ mayAll (nats l) m = false) ∨ (kindOf l = 3 ∧ m ≠ [])) :
    Calls Try.prog 36 #[b, .slice x l.length cx, .slice y len cy] w fun e w' => e = .returned (.bool false) ∧ Upd [] w w' := by
  have hml := hM.len
  subst hml
  have HC := Lib.hid (codes_any x l.length cx l w hx hI)
  have HI := Lib.hid (fun w' (hU : Upd [] w w') => hI.pure hU)
  have HM := Lib.hid (fun w' (hU : Upd [] w w') => hM.pure hU)
  clear hI hM
  go_enter Try.func36, Try.ntmps36
  go_wp2_with fail
  refine HC.out.mono ?_
  rintro e w1 ⟨hU1, ⟨h3, rfl⟩ | ⟨h3, g, rfl, hg, hR⟩⟩
  · have hm0 : m ≠ [] := by rcases hno with h | h; exact absurd h3 h.1; exact h.2
    have hml : 0 < m.length := List.length_pos_iff.2 hm0
    clear hno h3
    obtain ⟨bm, off, rfl, c0, r1, r2⟩ := (HM.out _ hU1).cell 0 hml
    rw [Nat.add_zero] at c0
    generalize m[0] = s at *
    go_wp2
    refine wp_loop_rounds 1 ?_
    rw [rounds_succ]
    by_cases hs : s < 0
    · go_wp2
      go_returns
      exact ⟨rfl, hU1⟩
    · have hs2 : 0 ≤ s := by omega
      go_wp2
      go_returns
      exact ⟨rfl, hU1⟩
  · have hno2 : mayAll (nats l) m = false := by rcases hno with h | h; exact h.2; exact absurd h.1 h3
    have HN := Lib.hid hno2
    obtain ⟨hok, _⟩ := kindOf_ok h3
    have HO := Lib.hid hok
    have hnl := length_nats l
    clear hno hno2 hok h3
    have hI1 := HI.out _ hU1
    have hM1 := HM.out _ hU1
    go_wp2
    go_loopg [16] m.length (fun g s16 wr => ∃ i, i ≤ m.length ∧ g = m.length - i ∧ s16 = .int .i64 (i : Nat) ∧ mayAll (nats l) (m.take i) = true ∧ w1 = wr)
    case atStart => exact ⟨0, by omega, rfl, rfl, rfl, rfl⟩
    case round =>
      obtain ⟨i, hin, rfl, rfl, hmay, rfl⟩ := hrel
      by_cases hc : i < m.length
      · have hcz : (i : Int) < (m.length : Int) := by omega
        obtain ⟨bm, off, rfl, c0, r1, r2⟩ := hM1.cell i hc
        have hmt := fun h => mayAll_take (n := nats l) hc hmay h
        have HT := Lib.hid hmt
        clear hmt hmay
        have hmb : mayB (nats l) m[i] = (decide (0 ≤ m[i]) && decide (m[i] < ((nats l).length : Int)) && decide ((nats l).getD (m[i]).toNat 0 ≠ 0)) := rfl
        generalize m[i] = s at *
        by_cases hs : s < 0
        · clear HT hmb
          go_wp2
          go_returns
          exact ⟨rfl, hU1⟩
        · by_cases hs2 : (l.length : Int) ≤ s
          · clear HT hmb
            go_wp2
            go_returns
            exact ⟨rfl, hU1⟩
          · obtain ⟨S, rfl⟩ : ∃ S : Nat, s = (S : Int) := ⟨s.toNat, by omega⟩
            have hSl : S < l.length := by omega
            obtain ⟨bx, offx, rfl, d0, q1, q2⟩ := hI1.cell S hSl
            have hkk := (okLens_spec HO.out).2 _ (List.getElem_mem hSl)
            obtain ⟨k, hk⟩ : ∃ k : Nat, l[S] = (k : Int) := ⟨(l[S]).toNat, by omega⟩
            have hnd : (nats l).getD S 0 = k := by rw [List.getD, List.getElem?_eq_getElem (by omega)]; simp [nats, hk]
            rw [hk] at d0
            rw [Int.toNat_natCast, hnd] at hmb
            clear hkk hk hnd q1 q2
            have hle : (l.length : Int) ≤ 9223372036854775807 := by omega
            by_cases hk0 : k = 0
            · subst hk0
              have d1 : w1.cell? ⟨bx, offx + S, none⟩ = some (.int .i64 0) := d0
              clear d0 hmb HT
              go_wp2
              go_returns
              exact ⟨rfl, hU1⟩
            · have hkf : ((k : Int) == 0) = false := by simp; omega
              have HT2 := Lib.hid (HT.out (by rw [hmb]; simp; omega))
              clear hmb HT
              go_wp2
              go_roundg (m.length - (i + 1))
              case measure => omega
              case rel => exact ⟨i + 1, by omega, rfl, by go_num, HT2.out, rfl⟩
      · have hi : i = m.length := by omega
        rw [hi, List.take_length, HN.out] at hmay
        cases hmay

theorem codes_getD (n : List Nat) (i : Nat) (h : i < n.length) : (codes n)[i]? = some (codeAt n i) := by simp [codes, h]
theorem codeAt_lt (n : List Nat) (hps : psum n 16 ≤ 32768) (h15 : ∀ x ∈ n, x ≤ 15) (i : Nat) (h : i < n.length) : codeAt n i < 32768 ∧ codeAt n i < 2 ^ (n.getD i 0) := by
  have hle : n.getD i 0 ≤ 15 := by rw [List.getD, List.getElem?_eq_getElem h]; exact h15 _ (List.getElem_mem h)
  have hb := fst_cnt n hps (n.getD i 0) hle
  have hp : 2 ^ (n.getD i 0) ≤ 2 ^ 15 := Nat.pow_le_pow_right (by omega) hle
  unfold codeAt
  by_cases h0 : n.getD i 0 = 0
  · rw [if_pos h0, h0]; omega
  · rw [if_neg h0]
    have hc := count_le_of n i _ h rfl
    have hcn : cnt n (n.getD i 0) = n.count (n.getD i 0) := by unfold cnt; rw [if_neg h0]
    omega

set_option maxRecDepth 100000 in
set_option maxHeartbeats 3200000 in
theorem write_any (b : Nat) (v : Value) (L : List Bool) (x y : Option Addr) (cx cy : Nat) (l m : List Int) (w : World) (hm : m.length ≤ 100000000) (hI : ∀ w', Upd (wrFp b v) w w' → IntsIn w' x l.length l) (hM : ∀ w', Upd (wrFp b v) w w' → IntsIn w' y m.length m)
    (hW : WrAt w b v L (L.length / 8)) (hL : L.length ≤ 1000000000000)
    (hk3 : kindOf l ≠ 3) (hmay : mayAll (nats l) m = true) :
    Calls Try.prog 36 #[.pointer (some ⟨b, 0, none⟩), .slice x l.length cx, .slice y m.length cy] w (WritePost w b v L true (msgBits (nats l) m)) := by
  obtain ⟨hok, hps⟩ := kindOf_ok hk3
  have HO := Lib.hid hok
  have hnl := length_nats l
  have h300 := (okLens_spec hok).1
  have h15 := Lib.hid (nats_le hok)
  have hcl := Lib.hid (fun i h => codeAt_lt (nats l) hps h15.out i h)
  have hC := codes_any x l.length cx l w (by omega) (hI w (.refl _ _))
  have HI := Lib.hid hI
  have HM := Lib.hid hM
  have HK := Lib.hid hk3
  have HY := Lib.hid hmay
  have hwb := hW.blk.lt
  have hwv := hW.row.lt
  clear hI hM hok hps hk3 hmay
  go_enter Try.func36, Try.ntmps36
  go_wp2_with fail
  refine hC.mono ?_
  rintro e w1 ⟨hU1, ⟨h3, _⟩ | ⟨h3, g, rfl, hg, hR⟩⟩
  · exact absurd h3 HK.out
  · clear h3
    have hUv : Upd (wrFp b v) w w1 := hU1.mono (by simp)
    have hW1 := hW.upd hU1 (by simp) (by simp)
    have hR1 := Lib.hid (fun w' (hU : Upd (wrFp b v) w1 w') => Row.upd hR hU (fun k hk hmm => by
      simp [Value.ownBlock] at hk
      simp only [wrFp, List.mem_cons] at hmm
      rcases hmm with h | h
      · omega
      · have := hwv k (by simpa using h); omega))
    have hI1 := HI.out _ hUv
    have hM1 := HM.out _ hUv
    clear hR hW
    go_wp2
    go_loopg [16] m.length (fun g s16 wr => ∃ i, i ≤ m.length ∧ g = m.length - i ∧ s16 = .int .i64 (i : Nat) ∧ w1 = wr)
    case atStart => exact ⟨0, by omega, rfl, rfl, rfl⟩
    case round =>
      obtain ⟨i, hin, rfl, rfl, rfl⟩ := hrel
      by_cases hc : i < m.length
      · have hcz : (i : Int) < (m.length : Int) := by omega
        obtain ⟨bm, off, rfl, c0, r1, r2⟩ := hM1.cell i hc
        have hmb := mayAll_at hc HY.out
        simp only [mayB, Bool.and_eq_true, decide_eq_true_eq] at hmb
        generalize m[i] = s at *
        obtain ⟨S, rfl⟩ : ∃ S : Nat, s = (S : Int) := ⟨s.toNat, by omega⟩
        have hSl : S < l.length := by omega
        obtain ⟨bx, offx, rfl, d0, q1, q2⟩ := hI1.cell S hSl
        have hkk := (okLens_spec HO.out).2 _ (List.getElem_mem hSl)
        obtain ⟨k, hk⟩ : ∃ k : Nat, l[S] = (k : Int) := ⟨(l[S]).toNat, by omega⟩
        have hnd : (nats l).getD S 0 = k := by rw [List.getD, List.getElem?_eq_getElem (by omega)]; simp [nats, hk]
        rw [hk] at d0
        rw [Int.toNat_natCast, hnd] at hmb
        have hkf : ((k : Int) == 0) = false := by simp; omega
        have hlf : decide ((l.length : Int) ≤ (S : Int)) = false := by simp; omega
        clear hmb hkk hk hnd q1 q2
        go_wp2
        go_roundg (m.length - (i + 1))
        case measure => omega
        case rel => exact ⟨i + 1, by omega, rfl, by go_num, rfl⟩
      · have hcz : ¬ (i : Int) < (m.length : Int) := by omega
        have hi : i = m.length := by omega
        clear hi hc hin hI1 hM1
        go_wp2
        go_loopg [38] m.length (fun g s38 wr => ∃ j v', j ≤ m.length ∧ g = m.length - j ∧ s38 = .int .i64 (j : Nat) ∧ WrAt wr b v' (L ++ msgBits (nats l) (m.take j)) ((L ++ msgBits (nats l) (m.take j)).length / 8) ∧ Upd (wrFp b v) w1 wr ∧ Later w1 v v')
        case atStart => exact ⟨0, v, by omega, rfl, rfl, by simpa [msgBits] using hW1, .refl _ _, .refl _ _⟩
        case round =>
          obtain ⟨j, v', hjn, rfl, rfl, hWj, hUj, hTj⟩ := hrel
          clear hW1
          by_cases hcj : j < m.length
          · have hcz2 : (j : Int) < (m.length : Int) := by omega
            have hUj2 : Upd (wrFp b v) w wr := hUv.then hUj
            obtain ⟨bm, off, rfl, c0, r1, r2⟩ := (HM.out _ hUj2).cell j hcj
            have hmb := mayAll_at hcj HY.out
            simp only [mayB, Bool.and_eq_true, decide_eq_true_eq] at hmb
            have hms := msgBits_take (nats l) hcj
            have hlb := msgBits_le (nats l) (m.take j) h15.out
            have hlt : (m.take j).length ≤ j := by simp; omega
            generalize m[j] = s at *
            obtain ⟨S, rfl⟩ : ∃ S : Nat, s = (S : Int) := ⟨s.toNat, by omega⟩
            have hSl : S < l.length := by omega
            obtain ⟨bx, offx, rfl, d0, q1, q2⟩ := (HI.out _ hUj2).cell S hSl
            have hkk := (okLens_spec HO.out).2 _ (List.getElem_mem hSl)
            obtain ⟨k, hk⟩ : ∃ k : Nat, l[S] = (k : Int) := ⟨(l[S]).toNat, by omega⟩
            have hnd : (nats l).getD S 0 = k := by rw [List.getD, List.getElem?_eq_getElem (by omega)]; simp [nats, hk]
            rw [hk] at d0 hkk
            have d2 := Row.cell (hR1.out _ hUj) S (u32s_get _ _ _ (codes_getD (nats l) S (by omega)))
            have hcc := hcl.out S (by omega)
            have hsb : symBits (nats l) S = low k (turnN (codeAt (nats l) S) k) := by unfold symBits; rw [hnd]
            rw [Int.toNat_natCast, hsb] at hms
            rw [hnd] at hcc
            have hms2 := Lib.hid (show L ++ msgBits (nats l) (m.take (j + 1)) = (L ++ msgBits (nats l) (m.take j)) ++ low k (turnN (codeAt (nats l) S) k) by rw [hms, List.append_assoc])
            have htn := turnN_lt (codeAt (nats l) S) k
            have hlen2 : (L ++ msgBits (nats l) (m.take j)).length ≤ 1099511627776 := by rw [List.length_append]; omega
            clear hmb hk hnd q1 q2 hms hsb hlb hlt r1 r2
            generalize L ++ msgBits (nats l) (m.take j) = M at *
            have hTu := turned_any (codeAt (nats l) S) k (codeAt (nats l) S : Nat) (k : Nat) wr.drew rfl (by omega) (by omega) (Lib.hid (by omega))
            have hBi := bits_any b (turnN (codeAt (nats l) S) k) (turnN (codeAt (nats l) S) k : Nat) (k : Nat) k wr.drew v' M rfl (Nat.lt_of_lt_of_le htn (Nat.le_trans (Nat.pow_le_pow_right (by omega) (show k ≤ 15 by omega)) (by decide))) (hWj.upd ((Upd.refl [] _).drew) (by simp) (by simp)) (by omega) (by omega) (Lib.hid (by omega))
            have HTu := Lib.hid hTu
            have HBi := Lib.hid hBi
            have htb : turnN (codeAt (nats l) S) k < 4294967296 := Nat.lt_of_lt_of_le htn (Nat.le_trans (Nat.pow_le_pow_right (by omega) (show k ≤ 15 by omega)) (by decide))
            clear hTu hBi htn
            generalize turnN (codeAt (nats l) S) k = t at *
            generalize codeAt (nats l) S = c at *
            go_wp2
            refine wp_region_still_tail 14 (by kernel_rfl) (by kernel_rfl) ?_
            simp only [List.take_succ_cons, List.take_zero, List.drop_succ_cons, List.drop_zero]
            repeat still_step
            still_call (HTu.out.mono fun e w' ⟨he, hw⟩ => ⟨he, hw.symm⟩)
            repeat still_step
            try refine wpStill_nil ?_
            change wpList _ _ _ _ _ wr.drew
            go_wp2_with fail
            refine HBi.out.mono ?_
            rintro e w3 ⟨rfl, v3, hW3, hU3, hT3⟩
            go_wp2
            go_roundg (m.length - (j + 1))
            case measure => omega
            case rel =>
              refine ⟨j + 1, v3, by omega, rfl, by go_num, by rw [hms2.out]; exact hW3, (hUj.drew).trans hU3 ?_, hTj.trans hUj.size hT3⟩
              intro q hq
              simp only [wrFp, List.mem_cons] at hq ⊢
              rcases hq with h | h
              · exact .inl (.inl h)
              · exact (hTj.fp q h).imp .inr id
          · have hj : j = m.length := by omega
            have hcz2 : ¬ (j : Int) < (m.length : Int) := by omega
            rw [hj, List.take_length] at hWj
            clear hj
            go_wp2
            go_returns
            refine ⟨rfl, v', hWj, hUv.then hUj, ?_⟩
            exact hTj.imp id fun ⟨g', h1, h2⟩ => ⟨g', h1, Nat.le_trans hU1.size h2⟩
end Go.Proofs.Ytcddlnmfdjfjfaa

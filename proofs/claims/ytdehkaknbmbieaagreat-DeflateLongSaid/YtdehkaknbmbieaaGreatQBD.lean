/- The walks of package huff: Write, near, Cost. -/
import Derived.Test.YtdehkaknbmbieaaGreatQBC
import Derived.Test.YtdehkaknbmbieaaGreatQAT
namespace Go.Proofs.YtdehkaknbmbieaaGreat
set_option linter.unusedVariables false
set_option linter.unusedSimpArgs false
set_option linter.unusedSectionVars false
open Go.RowKit
set_option linter.unusedVariables false

/-- A symbol's bits; may symbols be written? -/
def symBits (n : List Nat) (i : Nat) : List Bool := low (n.getD i 0) (turnN (codeAt n i) (n.getD i 0))
def mayB (n : List Nat) (s : Int) : Bool := decide (0 ≤ s) && decide (s < (n.length : Int)) && decide (n.getD s.toNat 0 ≠ 0)
def mayAll (n : List Nat) (m : List Int) : Bool := m.all (mayB n)
def msgBits (n : List Nat) (m : List Int) : List Bool := m.flatMap fun s => symBits n s.toNat
theorem length_symBits (n : List Nat) (i : Nat) : (symBits n i).length = n.getD i 0 := by rw [symBits, length_low]
theorem mayAll_at {n : List Nat} {m : List Int} {i : Nat} (h : i < m.length) (h1 : mayAll n m = true) : mayB n m[i] = true := by
  unfold mayAll at h1
  rw [List.all_eq_true] at h1
  exact h1 _ (List.getElem_mem h)
theorem msgBits_take (n : List Nat) {m : List Int} {i : Nat} (h : i < m.length) : msgBits n (m.take (i + 1)) = msgBits n (m.take i) ++ symBits n (m[i]).toNat := by
  unfold msgBits; rw [take_snoc' m i h, List.flatMap_append, List.flatMap_cons, List.flatMap_nil, List.append_nil]
theorem msgBits_le (n : List Nat) (m : List Int) (h : ∀ x ∈ n, x ≤ 15) : (msgBits n m).length ≤ 15 * m.length := by
  induction m with
  | nil => simp [msgBits]
  | cons x m ih =>
    have e : msgBits n (x :: m) = symBits n x.toNat ++ msgBits n m := rfl
    rw [e, List.length_append, length_symBits, List.length_cons]
    have : n.getD x.toNat 0 ≤ 15 := by
      rw [List.getD]
      by_cases hx : x.toNat < n.length
      · rw [List.getElem?_eq_getElem hx]; exact h _ (List.getElem_mem hx)
      · rw [List.getElem?_eq_none (by omega)]; simp
    omega

/-- Behind Write. -/
def WritePost (w : World) (b : Nat) (v : Value) (L : List Bool) (ok : Bool) (bits : List Bool) (e : Ending) (w' : World) : Prop :=
  e = .returned (.bool ok) ∧ ∃ v', WrAt w' b v' (L ++ bits) ((L ++ bits).length / 8) ∧ Upd (wrFp b v) w w' ∧ Later w v v'

theorem codes_getD (n : List Nat) (i : Nat) (h : i < n.length) : (codes n)[i]? = some (codeAt n i) := by simp [codes, h]
theorem codeAt_lt (n : List Nat) (hps : psum n 16 ≤ 32768) (h15 : ∀ x ∈ n, x ≤ 15) (i : Nat) (h : i < n.length) : codeAt n i < 32768 ∧ codeAt n i < 2 ^ (n.getD i 0) := by
  have hle : n.getD i 0 ≤ 15 := by rw [List.getD, List.getElem?_eq_getElem h]; exact h15 _ (List.getElem_mem h)
  have hb := fst_cnt n hps (n.getD i 0) hle
  have hp : 2 ^ (n.getD i 0) ≤ 2 ^ 15 := Nat.pow_le_pow_right (by omega) hle
  unfold codeAt
  by_cases h0 : n.getD i 0 = 0
  · rw [if_pos h0, h0]; omega
  · rw [if_neg h0]
    have hc := count_le_of n i _ h rfl
    have hcn : cnt n (n.getD i 0) = n.count (n.getD i 0) := by unfold cnt; rw [if_neg h0]
    omega

set_option maxRecDepth 100000 in
set_option maxHeartbeats 3200000 in
theorem write_any (b : Nat) (v : Value) (L : List Bool) (x y : Option Addr) (cx cy : Nat) (l m : List Int) (w : World) (hm : m.length ≤ 100000000) (hI : ∀ w', Upd (wrFp b v) w w' → IntsIn w' x l.length l) (hM : ∀ w', Upd (wrFp b v) w w' → IntsIn w' y m.length m)
    (hW : WrAt w b v L (L.length / 8)) (hL : L.length ≤ 1000000000000)
    (hk3 : kindOf l ≠ 3) (hmay : mayAll (nats l) m = true) :
    Calls Tryz.prog 46 #[.pointer (some ⟨b, 0, none⟩), .slice x l.length cx, .slice y m.length cy] w (WritePost w b v L true (msgBits (nats l) m)) := by
  obtain ⟨hok, hps⟩ := kindOf_ok hk3
  have HO := Lib.hid hok
  have hnl := length_nats l
  have h300 := (okLens_spec hok).1
  have h15 := Lib.hid (nats_le hok)
  have hcl := Lib.hid (fun i h => codeAt_lt (nats l) hps h15.out i h)
  have hC := codes_any x l.length cx l w (by omega) (hI w (.refl _ _))
  have HI := Lib.hid hI
  have HM := Lib.hid hM
  have HK := Lib.hid hk3
  have HY := Lib.hid hmay
  have hwb := hW.blk.lt
  have hwv := hW.row.lt
  clear hI hM hok hps hk3 hmay
  go_enter Tryz.func46, Tryz.ntmps46
  go_wp2_with fail
  refine hC.mono ?_
  rintro e w1 ⟨hU1, ⟨h3, _⟩ | ⟨h3, g, rfl, hg, hR⟩⟩
  · exact absurd h3 HK.out
  · clear h3
    have hUv : Upd (wrFp b v) w w1 := hU1.mono (by simp)
    have hW1 := hW.upd hU1 (by simp) (by simp)
    have hR1 := Lib.hid (fun w' (hU : Upd (wrFp b v) w1 w') => Row.upd hR hU (fun k hk hmm => by
      simp [Value.ownBlock] at hk
      simp only [wrFp, List.mem_cons] at hmm
      rcases hmm with h | h
      · omega
      · have := hwv k (by simpa using h); omega))
    have hI1 := HI.out _ hUv
    have hM1 := HM.out _ hUv
    clear hR hW
    go_wp2
    go_loopg [16] m.length (fun g s16 wr => ∃ i, i ≤ m.length ∧ g = m.length - i ∧ s16 = .int .i64 (i : Nat) ∧ w1 = wr)
    case atStart => exact ⟨0, by omega, rfl, rfl, rfl⟩
    case round =>
      obtain ⟨i, hin, rfl, rfl, rfl⟩ := hrel
      by_cases hc : i < m.length
      · have hcz : (i : Int) < (m.length : Int) := by omega
        obtain ⟨bm, off, rfl, c0, r1, r2⟩ := hM1.cell i hc
        have hmb := mayAll_at hc HY.out
        simp only [mayB, Bool.and_eq_true, decide_eq_true_eq] at hmb
        generalize m[i] = s at *
        obtain ⟨S, rfl⟩ : ∃ S : Nat, s = (S : Int) := ⟨s.toNat, by omega⟩
        have hSl : S < l.length := by omega
        obtain ⟨bx, offx, rfl, d0, q1, q2⟩ := hI1.cell S hSl
        have hkk := (okLens_spec HO.out).2 _ (List.getElem_mem hSl)
        obtain ⟨k, hk⟩ : ∃ k : Nat, l[S] = (k : Int) := ⟨(l[S]).toNat, by omega⟩
        have hnd : (nats l).getD S 0 = k := by rw [List.getD, List.getElem?_eq_getElem (by omega)]; simp [nats, hk]
        rw [hk] at d0
        rw [Int.toNat_natCast, hnd] at hmb
        have hkf : ((k : Int) == 0) = false := by simp; omega
        have hlf : decide ((l.length : Int) ≤ (S : Int)) = false := by simp; omega
        clear hmb hkk hk hnd q1 q2
        go_wp2
        go_roundg (m.length - (i + 1))
        case measure => omega
        case rel => exact ⟨i + 1, by omega, rfl, by go_num, rfl⟩
      · have hcz : ¬ (i : Int) < (m.length : Int) := by omega
        have hi : i = m.length := by omega
        clear hi hc hin hI1 hM1
        go_wp2
        go_loopg [38] m.length (fun g s38 wr => ∃ j v', j ≤ m.length ∧ g = m.length - j ∧ s38 = .int .i64 (j : Nat) ∧ WrAt wr b v' (L ++ msgBits (nats l) (m.take j)) ((L ++ msgBits (nats l) (m.take j)).length / 8) ∧ Upd (wrFp b v) w1 wr ∧ Later w1 v v')
        case atStart => exact ⟨0, v, by omega, rfl, rfl, by simpa [msgBits] using hW1, .refl _ _, .refl _ _⟩
        case round =>
          obtain ⟨j, v', hjn, rfl, rfl, hWj, hUj, hTj⟩ := hrel
          clear hW1
          by_cases hcj : j < m.length
          · have hcz2 : (j : Int) < (m.length : Int) := by omega
            have hUj2 : Upd (wrFp b v) w wr := hUv.then hUj
            obtain ⟨bm, off, rfl, c0, r1, r2⟩ := (HM.out _ hUj2).cell j hcj
            have hmb := mayAll_at hcj HY.out
            simp only [mayB, Bool.and_eq_true, decide_eq_true_eq] at hmb
            have hms := msgBits_take (nats l) hcj
            have hlb := msgBits_le (nats l) (m.take j) h15.out
            have hlt : (m.take j).length ≤ j := by simp; omega
            generalize m[j] = s at *
            obtain ⟨S, rfl⟩ : ∃ S : Nat, s = (S : Int) := ⟨s.toNat, by omega⟩
            have hSl : S < l.length := by omega
            obtain ⟨bx, offx, rfl, d0, q1, q2⟩ := (HI.out _ hUj2).cell S hSl
            have hkk := (okLens_spec HO.out).2 _ (List.getElem_mem hSl)
            obtain ⟨k, hk⟩ : ∃ k : Nat, l[S] = (k : Int) := ⟨(l[S]).toNat, by omega⟩
            have hnd : (nats l).getD S 0 = k := by rw [List.getD, List.getElem?_eq_getElem (by omega)]; simp [nats, hk]
            rw [hk] at d0 hkk
            have d2 := Row.cell (hR1.out _ hUj) S (u32s_get _ _ _ (codes_getD (nats l) S (by omega)))
            have hcc := hcl.out S (by omega)
            have hsb : symBits (nats l) S = low k (turnN (codeAt (nats l) S) k) := by unfold symBits; rw [hnd]
            rw [Int.toNat_natCast, hsb] at hms
            rw [hnd] at hcc
            have hms2 := Lib.hid (show L ++ msgBits (nats l) (m.take (j + 1)) = (L ++ msgBits (nats l) (m.take j)) ++ low k (turnN (codeAt (nats l) S) k) by rw [hms, List.append_assoc])
            have htn := turnN_lt (codeAt (nats l) S) k
            have hlen2 : (L ++ msgBits (nats l) (m.take j)).length ≤ 1099511627776 := by rw [List.length_append]; omega
            clear hmb hk hnd q1 q2 hms hsb hlb hlt r1 r2
            generalize L ++ msgBits (nats l) (m.take j) = M at *
            have hTu := turned_any (codeAt (nats l) S) k (codeAt (nats l) S : Nat) (k : Nat) wr.drew rfl (by omega) (by omega) (Lib.hid (by omega))
            have hBi := bits_any b (turnN (codeAt (nats l) S) k) (turnN (codeAt (nats l) S) k : Nat) (k : Nat) k wr.drew v' M rfl (Nat.lt_of_lt_of_le htn (Nat.le_trans (Nat.pow_le_pow_right (by omega) (show k ≤ 15 by omega)) (by decide))) (hWj.upd ((Upd.refl [] _).drew) (by simp) (by simp)) (by omega) (by omega) (Lib.hid (by omega))
            have HTu := Lib.hid hTu
            have HBi := Lib.hid hBi
            have htb : turnN (codeAt (nats l) S) k < 4294967296 := Nat.lt_of_lt_of_le htn (Nat.le_trans (Nat.pow_le_pow_right (by omega) (show k ≤ 15 by omega)) (by decide))
            clear hTu hBi htn
            generalize turnN (codeAt (nats l) S) k = t at *
            generalize codeAt (nats l) S = c at *
            go_wp2
            refine wp_region_still_tail 14 (by kernel_rfl) (by kernel_rfl) ?_
            simp only [List.take_succ_cons, List.take_zero, List.drop_succ_cons, List.drop_zero]
            repeat still_step
            still_call (HTu.out.mono fun e w' ⟨he, hw⟩ => ⟨he, hw.symm⟩)
            repeat still_step
            try refine wpStill_nil ?_
            change wpList _ _ _ _ _ wr.drew
            go_wp2_with fail
            refine HBi.out.mono ?_
            rintro e w3 ⟨rfl, v3, hW3, hU3, hT3⟩
            go_wp2
            go_roundg (m.length - (j + 1))
            case measure => omega
            case rel =>
              refine ⟨j + 1, v3, by omega, rfl, by go_num, by rw [hms2.out]; exact hW3, (hUj.drew).trans hU3 ?_, hTj.trans hUj.size hT3⟩
              intro q hq
              simp only [wrFp, List.mem_cons] at hq ⊢
              rcases hq with h | h
              · exact .inl (.inl h)
              · exact (hTj.fp q h).imp .inr id
          · have hj : j = m.length := by omega
            have hcz2 : ¬ (j : Int) < (m.length : Int) := by omega
            rw [hj, List.take_length] at hWj
            clear hj
            go_wp2
            go_returns
            refine ⟨rfl, v', hWj, hUv.then hUj, ?_⟩
            exact hTj.imp id fun ⟨g', h1, h2⟩ => ⟨g', h1, Nat.le_trans hU1.size h2⟩
end Go.Proofs.YtdehkaknbmbieaaGreat
namespace Go.Proofs.YtdehkaknbmbieaaGreat
set_option linter.unusedVariables false
set_option linter.unusedSimpArgs false
set_option linter.unusedSectionVars false
open Go.RowKit
set_option linter.unusedVariables false
set_option linter.unusedSimpArgs false

/-- The bits of a token, of tokens and the end. -/
def tokB (na nb : List Nat) (t : Tok) : List Bool :=
  if t.long = 0 then symBits na t.byte
  else symBits na (litC t) ++ (low (lBits.getD ((findL t.long.toNat 29 0).getD 0) 0) (t.long.toNat - lAt.getD ((findL t.long.toNat 29 0).getD 0) 0) ++ (symBits nb (bakC t) ++ low (dBt (bakC t)) (t.back.toNat - dAt.getD (bakC t) 0)))
def symsB (na nb : List Nat) : List Tok → List Bool
  | [] => symBits na 256
  | t :: r => tokB na nb t ++ symsB na nb r
/-- All symbols of tokens have a code. -/
structure Coded (na nb : List Nat) (l : List Tok) : Prop where
  fin : na.getD 256 0 ≠ 0
  lit : ∀ t ∈ l, na.getD (litC t) 0 ≠ 0
  bak : ∀ t ∈ l, t.long ≠ 0 → nb.getD (bakC t) 0 ≠ 0
/-- A Writer's state since w0. -/
structure WS (w0 : World) (b : Nat) (v0 : Value) (w : World) (v : Value) (L : List Bool) : Prop where
  at_ : WrAt w b v L (L.length / 8)
  upd : Upd (wrFp b v0) w0 w
  later : Later w0 v0 v
theorem WS.fp {w0 w w' : World} {b : Nat} {v0 v : Value} {L : List Bool} (h : WS w0 b v0 w v L) (hU : Upd (wrFp b v) w w') : Upd (wrFp b v0) w0 w' :=
  h.upd.trans hU (fun k hk => by
    rcases List.mem_cons.1 hk with rfl | hk
    · exact .inl List.mem_cons_self
    · rcases h.later.fp k hk with h1 | h1
      · exact .inl (List.mem_cons_of_mem _ h1)
      · exact .inr h1)
theorem WS.refl {w : World} {b : Nat} {v : Value} {L : List Bool} (h : WrAt w b v L (L.length / 8)) : WS w b v w v L := ⟨h, Upd.refl _ _, Later.refl _ _⟩
theorem WS.pure {w0 w w' : World} {b : Nat} {v0 v : Value} {L : List Bool} (h : WS w0 b v0 w v L) (hU : Upd [] w w') : WS w0 b v0 w' v L :=
  ⟨h.at_.upd hU (by simp) (by simp), h.upd.trans hU (by simp), h.later⟩
theorem WS.step {w0 w w' : World} {b : Nat} {v0 v v' : Value} {L L' : List Bool} (h : WS w0 b v0 w v L) (hW : WrAt w' b v' L' (L'.length / 8)) (hU : Upd (wrFp b v) w w') (hT : Later w v v') : WS w0 b v0 w' v' L' :=
  ⟨hW, h.fp hU, h.later.trans h.upd.size hT⟩
theorem nats_intsT (l : List Nat) : nats (ints l) = l := by
  unfold nats ints
  rw [List.map_map]
  have : (Int.toNat ∘ fun x : Nat => (x : Int)) = id := by funext x; simp
  rw [this, List.map_id]
def WPost (w : World) (b : Nat) (v : Value) (L : List Bool) (e : Ending) (w' : World) : Prop := e = .returned (.bool true) ∧ ∃ v', WrAt w' b v' L (L.length / 8) ∧ Upd (wrFp b v) w w' ∧ Later w v v'
/-- One symbol, in a new slice. -/
theorem wsym_new (b nx cx S : Nat) (v : Value) (L : List Bool) (x : Option Addr) (na : List Nat) (w : World) (hX : ∀ w', Upd (wrFp b v) w w' → IntsIn w' x nx (ints na)) (hW : WrAt w b v L (L.length / 8)) (hL : L.length ≤ 1000000000000)
    (hk3 : kindOf (ints na) ≠ 3) (h0 : na.getD S 0 ≠ 0) :
    Calls Tryz.prog 46 #[.pointer (some ⟨b, 0, none⟩), .slice x nx cx, .slice (some ⟨w.heap.size, 0, none⟩) 1 1] (w.alloc (.cells #[.int .i64 (S : Nat)] 3)) (WPost w b v (L ++ symBits na S)) := by
  have hlen : nx = (ints na).length := (hX w (Upd.refl _ _)).len.symm
  subst hlen
  have hUa : Upd [] w (w.alloc (.cells #[.int .i64 (S : Nat)] 3)) := (Upd.refl [] w).alloc _
  have hWa := hW.upd hUa (by simp) (by simp)
  have hB := Blk.new w [.int .i64 (S : Nat)] 3
  have hS : S < na.length := by
    rcases Nat.lt_or_ge S na.length with h | h
    · exact h
    · rw [List.getD_eq_getElem?_getD, List.getElem?_eq_none h] at h0
      exact absurd rfl h0
  have hS64 : (S : Int) ≤ 9223372036854775807 := by
    have h1 := (okLens_spec (kindOf_ok hk3).1).1
    simp [ints] at h1
    omega
  have hne : w.heap.size ∉ wrFp b v := fun hm => by
    rcases List.mem_cons.1 hm with h | h
    · have := hW.blk.lt; omega
    · have := hW.row.lt w.heap.size (by simpa using h); omega
  have h := write_any b v L x (some ⟨w.heap.size, 0, none⟩) cx 1 (ints na) [(S : Int)] (w.alloc (.cells #[.int .i64 (S : Nat)] 3)) (by simp)
    (fun w' hU => hX w' ((hUa.mono (by simp)).then hU)) (fun w' hU => IntsIn.of_blk (l := [(S : Int)]) (hB.upd hU hne) (fun y hy => by rw [List.mem_singleton] at hy; rw [hy]; omega)) hWa hL hk3
    (by
      rw [nats_intsT]
      simp only [mayAll, List.all_cons, List.all_nil, Bool.and_true, mayB, Int.toNat_natCast]
      simp only [Bool.and_eq_true, decide_eq_true_eq]
      exact ⟨⟨by omega, by omega⟩, h0⟩)
  refine h.mono (fun e w' h2 => ?_)
  obtain ⟨he, v', h3, h4, h5⟩ := h2
  rw [nats_intsT] at h3
  have e2 : msgBits na [(S : Int)] = symBits na S := by simp [msgBits]
  rw [e2] at h3
  exact ⟨he, v', h3, (hUa.mono (by simp)).then h4, by
    rcases h5 with h5 | ⟨g, h6, h7⟩
    · exact .inl h5
    · exact .inr ⟨g, h6, Nat.le_trans hUa.size h7⟩⟩
end Go.Proofs.YtdehkaknbmbieaaGreat

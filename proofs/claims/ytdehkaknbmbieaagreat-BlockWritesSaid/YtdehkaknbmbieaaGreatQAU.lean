/- The walks of package huff: Write, near, Cost. -/
import Derived.Test.YtdehkaknbmbieaaGreatQAQ
import Derived.Test.YtdehkaknbmbieaaGreatQAS
import Derived.Laws.CopyOwn
import Derived.Test.YtdehkaknbmbieaaGreatQAD
import Derived.Test.YtdehkaknbmbieaaGreatQAT
namespace Go.Proofs.YtdehkaknbmbieaaGreat
set_option linter.unusedVariables false
set_option linter.unusedSimpArgs false
set_option linter.unusedSectionVars false
open Go.RowKit
set_option linter.unusedVariables false

/-- A symbol's bits; may symbols be written? -/
def symBits (n : List Nat) (i : Nat) : List Bool := low (n.getD i 0) (turnN (codeAt n i) (n.getD i 0))
def mayB (n : List Nat) (s : Int) : Bool := decide (0 ≤ s) && decide (s < (n.length : Int)) && decide (n.getD s.toNat 0 ≠ 0)
def mayAll (n : List Nat) (m : List Int) : Bool := m.all (mayB n)
def msgBits (n : List Nat) (m : List Int) : List Bool := m.flatMap fun s => symBits n s.toNat
theorem length_symBits (n : List Nat) (i : Nat) : (symBits n i).length = n.getD i 0 := by rw [symBits, length_low]
theorem mayAll_at {n : List Nat} {m : List Int} {i : Nat} (h : i < m.length) (h1 : mayAll n m = true) : mayB n m[i] = true := by
  unfold mayAll at h1
  rw [List.all_eq_true] at h1
  exact h1 _ (List.getElem_mem h)
theorem msgBits_take (n : List Nat) {m : List Int} {i : Nat} (h : i < m.length) : msgBits n (m.take (i + 1)) = msgBits n (m.take i) ++ symBits n (m[i]).toNat := by
  unfold msgBits; rw [take_snoc' m i h, List.flatMap_append, List.flatMap_cons, List.flatMap_nil, List.append_nil]
theorem msgBits_le (n : List Nat) (m : List Int) (h : ∀ x ∈ n, x ≤ 15) : (msgBits n m).length ≤ 15 * m.length := by
  induction m with
  | nil => simp [msgBits]
  | cons x m ih =>
    have e : msgBits n (x :: m) = symBits n x.toNat ++ msgBits n m := rfl
    rw [e, List.length_append, length_symBits, List.length_cons]
    have : n.getD x.toNat 0 ≤ 15 := by
      rw [List.getD]
      by_cases hx : x.toNat < n.length
      · rw [List.getElem?_eq_getElem hx]; exact h _ (List.getElem_mem hx)
      · rw [List.getElem?_eq_none (by omega)]; simp
    omega

/-- Behind Write. -/
def WritePost (w : World) (b : Nat) (v : Value) (L : List Bool) (ok : Bool) (bits : List Bool) (e : Ending) (w' : World) : Prop :=
  e = .returned (.bool ok) ∧ ∃ v', WrAt w' b v' (L ++ bits) ((L ++ bits).length / 8) ∧ Upd (wrFp b v) w w' ∧ Later w v v'

theorem codes_getD (n : List Nat) (i : Nat) (h : i < n.length) : (codes n)[i]? = some (codeAt n i) := by simp [codes, h]
theorem codeAt_lt (n : List Nat) (hps : psum n 16 ≤ 32768) (h15 : ∀ x ∈ n, x ≤ 15) (i : Nat) (h : i < n.length) : codeAt n i < 32768 ∧ codeAt n i < 2 ^ (n.getD i 0) := by
  have hle : n.getD i 0 ≤ 15 := by rw [List.getD, List.getElem?_eq_getElem h]; exact h15 _ (List.getElem_mem h)
  have hb := fst_cnt n hps (n.getD i 0) hle
  have hp : 2 ^ (n.getD i 0) ≤ 2 ^ 15 := Nat.pow_le_pow_right (by omega) hle
  unfold codeAt
  by_cases h0 : n.getD i 0 = 0
  · rw [if_pos h0, h0]; omega
  · rw [if_neg h0]
    have hc := count_le_of n i _ h rfl
    have hcn : cnt n (n.getD i 0) = n.count (n.getD i 0) := by unfold cnt; rw [if_neg h0]
    omega

set_option maxRecDepth 100000 in
set_option maxHeartbeats 3200000 in
theorem write_any (b : Nat) (v : Value) (L : List Bool) (x y : Option Addr) (cx cy : Nat) (l m : List Int) (w : World) (hm : m.length ≤ 100000000) (hI : ∀ w', Upd (wrFp b v) w w' → IntsIn w' x l.length l) (hM : ∀ w', Upd (wrFp b v) w w' → IntsIn w' y m.length m)
    (hW : WrAt w b v L (L.length / 8)) (hL : L.length ≤ 1000000000000)
    (hk3 : kindOf l ≠ 3) (hmay : mayAll (nats l) m = true) :
    Calls Tryz.prog 46 #[.pointer (some ⟨b, 0, none⟩), .slice x l.length cx, .slice y m.length cy] w (WritePost w b v L true (msgBits (nats l) m)) := by
  obtain ⟨hok, hps⟩ := kindOf_ok hk3
  have HO := Lib.hid hok
  have hnl := length_nats l
  have h300 := (okLens_spec hok).1
  have h15 := Lib.hid (nats_le hok)
  have hcl := Lib.hid (fun i h => codeAt_lt (nats l) hps h15.out i h)
  have hC := codes_any x l.length cx l w (by omega) (hI w (.refl _ _))
  have HI := Lib.hid hI
  have HM := Lib.hid hM
  have HK := Lib.hid hk3
  have HY := Lib.hid hmay
  have hwb := hW.blk.lt
  have hwv := hW.row.lt
  clear hI hM hok hps hk3 hmay
  go_enter Tryz.func46, Tryz.ntmps46
  go_wp2_with fail
  refine hC.mono ?_
  rintro e w1 ⟨hU1, ⟨h3, _⟩ | ⟨h3, g, rfl, hg, hR⟩⟩
  · exact absurd h3 HK.out
  · clear h3
    have hUv : Upd (wrFp b v) w w1 := hU1.mono (by simp)
    have hW1 := hW.upd hU1 (by simp) (by simp)
    have hR1 := Lib.hid (fun w' (hU : Upd (wrFp b v) w1 w') => Row.upd hR hU (fun k hk hmm => by
      simp [Value.ownBlock] at hk
      simp only [wrFp, List.mem_cons] at hmm
      rcases hmm with h | h
      · omega
      · have := hwv k (by simpa using h); omega))
    have hI1 := HI.out _ hUv
    have hM1 := HM.out _ hUv
    clear hR hW
    go_wp2
    go_loopg [16] m.length (fun g s16 wr => ∃ i, i ≤ m.length ∧ g = m.length - i ∧ s16 = .int .i64 (i : Nat) ∧ w1 = wr)
    case atStart => exact ⟨0, by omega, rfl, rfl, rfl⟩
    case round =>
      obtain ⟨i, hin, rfl, rfl, rfl⟩ := hrel
      by_cases hc : i < m.length
      · have hcz : (i : Int) < (m.length : Int) := by omega
        obtain ⟨bm, off, rfl, c0, r1, r2⟩ := hM1.cell i hc
        have hmb := mayAll_at hc HY.out
        simp only [mayB, Bool.and_eq_true, decide_eq_true_eq] at hmb
        generalize m[i] = s at *
        obtain ⟨S, rfl⟩ : ∃ S : Nat, s = (S : Int) := ⟨s.toNat, by omega⟩
        have hSl : S < l.length := by omega
        obtain ⟨bx, offx, rfl, d0, q1, q2⟩ := hI1.cell S hSl
        have hkk := (okLens_spec HO.out).2 _ (List.getElem_mem hSl)
        obtain ⟨k, hk⟩ : ∃ k : Nat, l[S] = (k : Int) := ⟨(l[S]).toNat, by omega⟩
        have hnd : (nats l).getD S 0 = k := by rw [List.getD, List.getElem?_eq_getElem (by omega)]; simp [nats, hk]
        rw [hk] at d0
        rw [Int.toNat_natCast, hnd] at hmb
        have hkf : ((k : Int) == 0) = false := by simp; omega
        have hlf : decide ((l.length : Int) ≤ (S : Int)) = false := by simp; omega
        clear hmb hkk hk hnd q1 q2
        go_wp2
        go_roundg (m.length - (i + 1))
        case measure => omega
        case rel => exact ⟨i + 1, by omega, rfl, by go_num, rfl⟩
      · have hcz : ¬ (i : Int) < (m.length : Int) := by omega
        have hi : i = m.length := by omega
        clear hi hc hin hI1 hM1
        go_wp2
        go_loopg [38] m.length (fun g s38 wr => ∃ j v', j ≤ m.length ∧ g = m.length - j ∧ s38 = .int .i64 (j : Nat) ∧ WrAt wr b v' (L ++ msgBits (nats l) (m.take j)) ((L ++ msgBits (nats l) (m.take j)).length / 8) ∧ Upd (wrFp b v) w1 wr ∧ Later w1 v v')
        case atStart => exact ⟨0, v, by omega, rfl, rfl, by simpa [msgBits] using hW1, .refl _ _, .refl _ _⟩
        case round =>
          obtain ⟨j, v', hjn, rfl, rfl, hWj, hUj, hTj⟩ := hrel
          clear hW1
          by_cases hcj : j < m.length
          · have hcz2 : (j : Int) < (m.length : Int) := by omega
            have hUj2 : Upd (wrFp b v) w wr := hUv.then hUj
            obtain ⟨bm, off, rfl, c0, r1, r2⟩ := (HM.out _ hUj2).cell j hcj
            have hmb := mayAll_at hcj HY.out
            simp only [mayB, Bool.and_eq_true, decide_eq_true_eq] at hmb
            have hms := msgBits_take (nats l) hcj
            have hlb := msgBits_le (nats l) (m.take j) h15.out
            have hlt : (m.take j).length ≤ j := by simp; omega
            generalize m[j] = s at *
            obtain ⟨S, rfl⟩ : ∃ S : Nat, s = (S : Int) := ⟨s.toNat, by omega⟩
            have hSl : S < l.length := by omega
            obtain ⟨bx, offx, rfl, d0, q1, q2⟩ := (HI.out _ hUj2).cell S hSl
            have hkk := (okLens_spec HO.out).2 _ (List.getElem_mem hSl)
            obtain ⟨k, hk⟩ : ∃ k : Nat, l[S] = (k : Int) := ⟨(l[S]).toNat, by omega⟩
            have hnd : (nats l).getD S 0 = k := by rw [List.getD, List.getElem?_eq_getElem (by omega)]; simp [nats, hk]
            rw [hk] at d0 hkk
            have d2 := Row.cell (hR1.out _ hUj) S (u32s_get _ _ _ (codes_getD (nats l) S (by omega)))
            have hcc := hcl.out S (by omega)
            have hsb : symBits (nats l) S = low k (turnN (codeAt (nats l) S) k) := by unfold symBits; rw [hnd]
            rw [Int.toNat_natCast, hsb] at hms
            rw [hnd] at hcc
            have hms2 := Lib.hid (show L ++ msgBits (nats l) (m.take (j + 1)) = (L ++ msgBits (nats l) (m.take j)) ++ low k (turnN (codeAt (nats l) S) k) by rw [hms, List.append_assoc])
            have htn := turnN_lt (codeAt (nats l) S) k
            have hlen2 : (L ++ msgBits (nats l) (m.take j)).length ≤ 1099511627776 := by rw [List.length_append]; omega
            clear hmb hk hnd q1 q2 hms hsb hlb hlt r1 r2
            generalize L ++ msgBits (nats l) (m.take j) = M at *
            have hTu := turned_any (codeAt (nats l) S) k (codeAt (nats l) S : Nat) (k : Nat) wr.drew rfl (by omega) (by omega) (Lib.hid (by omega))
            have hBi := bits_any b (turnN (codeAt (nats l) S) k) (turnN (codeAt (nats l) S) k : Nat) (k : Nat) k wr.drew v' M rfl (Nat.lt_of_lt_of_le htn (Nat.le_trans (Nat.pow_le_pow_right (by omega) (show k ≤ 15 by omega)) (by decide))) (hWj.upd ((Upd.refl [] _).drew) (by simp) (by simp)) (by omega) (by omega) (Lib.hid (by omega))
            have HTu := Lib.hid hTu
            have HBi := Lib.hid hBi
            have htb : turnN (codeAt (nats l) S) k < 4294967296 := Nat.lt_of_lt_of_le htn (Nat.le_trans (Nat.pow_le_pow_right (by omega) (show k ≤ 15 by omega)) (by decide))
            clear hTu hBi htn
            generalize turnN (codeAt (nats l) S) k = t at *
            generalize codeAt (nats l) S = c at *
            go_wp2
            refine wp_region_still_tail 14 (by kernel_rfl) (by kernel_rfl) ?_
            simp only [List.take_succ_cons, List.take_zero, List.drop_succ_cons, List.drop_zero]
            repeat still_step
            still_call (HTu.out.mono fun e w' ⟨he, hw⟩ => ⟨he, hw.symm⟩)
            repeat still_step
            try refine wpStill_nil ?_
            change wpList _ _ _ _ _ wr.drew
            go_wp2_with fail
            refine HBi.out.mono ?_
            rintro e w3 ⟨rfl, v3, hW3, hU3, hT3⟩
            go_wp2
            go_roundg (m.length - (j + 1))
            case measure => omega
            case rel =>
              refine ⟨j + 1, v3, by omega, rfl, by go_num, by rw [hms2.out]; exact hW3, (hUj.drew).trans hU3 ?_, hTj.trans hUj.size hT3⟩
              intro q hq
              simp only [wrFp, List.mem_cons] at hq ⊢
              rcases hq with h | h
              · exact .inl (.inl h)
              · exact (hTj.fp q h).imp .inr id
          · have hj : j = m.length := by omega
            have hcz2 : ¬ (j : Int) < (m.length : Int) := by omega
            rw [hj, List.take_length] at hWj
            clear hj
            go_wp2
            go_returns
            refine ⟨rfl, v', hWj, hUv.then hUj, ?_⟩
            exact hTj.imp id fun ⟨g', h1, h2⟩ => ⟨g', h1, Nat.le_trans hU1.size h2⟩
end Go.Proofs.YtdehkaknbmbieaaGreat
namespace Go.Proofs.YtdehkaknbmbieaaGreat
set_option linter.unusedVariables false
set_option linter.unusedSimpArgs false
set_option linter.unusedSectionVars false
open Go.RowKit
set_option linter.unusedVariables false

theorem IntsIn.far {w w' : World} {a : Option Addr} {len : Nat} {l : List Int} {fp : List Nat} (h : IntsIn w a len l) (hU : Upd fp w w') (hf : ∀ k ∈ fp, w.heap.size ≤ k) : IntsIn w' a len l :=
  ⟨h.len, fun i hi => by
    obtain ⟨b, off, e, c, r⟩ := h.cell i hi
    have hb : b < w.heap.size := World.block_lt_of_cell? w _ c
    exact ⟨b, off, e, (hU.at hb (fun hm => by have := hf b hm; omega) _).trans c, r⟩⟩

theorem val_pad (L : List Bool) (k a n : Nat) : val (((L ++ List.replicate k false).drop a).take n) = val ((L.drop a).take n) := by
  rw [List.drop_append, List.take_append, val_append, List.drop_replicate, List.take_replicate, val_replicate_false]; simp
theorem textBits_outs (L : List Bool) (m : Nat) (h : 8 * m ≤ L.length) : textBits (outs L m) = L.take (8 * m) := by
  induction m with
  | zero => simp [outs, textBits]
  | succ m ih =>
    rw [outs_succ, textBits_snoc, ih (by omega)]
    have h1 : ((L.drop (8 * m)).take 8).length = 8 := by rw [List.length_take, List.length_drop]; omega
    have h2 := low_val ((L.drop (8 * m)).take 8)
    rw [h1] at h2
    rw [chunk, h2, ← List.take_add]; rfl
theorem textBits_pack (L : List Bool) : textBits (pack L) = alignL L := by
  have e : pack L = outs (alignL L) ((L.length + 7) / 8) := by
    unfold pack outs
    apply List.map_congr_left
    intro i _
    unfold chunk alignL
    rw [val_pad]
  rw [e, textBits_outs _ _ (by rw [length_alignL]; omega), ← length_alignL, List.take_length]
theorem pack_lt (L : List Bool) : ∀ x ∈ pack L, x < 256 := outs_lt L _
theorem sbits_pack (L : List Bool) : sbits (strOf (pack L)) = alignL L := by
  rw [sbits, bytesOf_strOf _ (pack_lt L), textBits_pack]
theorem size_pack (L : List Bool) : (strOf (pack L)).size = (L.length + 7) / 8 := by rw [size_strOf, pack, length_outs]
/-- A number read out of what was written. -/
theorem rdVal_mid (A M B : List Bool) (n a : Nat) (h : a + n ≤ M.length) : rdVal (strOf (pack (A ++ M ++ B))) (A.length + a) n = val ((M.drop a).take n) := by
  unfold rdVal
  rw [sbits_pack, alignL, List.append_assoc, List.append_assoc, ← List.drop_drop, List.drop_left, List.drop_append_of_le_length (by omega), List.take_append_of_le_length (by rw [List.length_drop]; omega)]

theorem turnN_div (v k j : Nat) (h : j ≤ k) : turnN v k / 2 ^ j = turnN v (k - j) := by
  induction j with
  | zero => simp
  | succ j ih =>
    rw [Nat.pow_succ, ← Nat.div_div_eq_div_mul, ih (by omega)]
    have e : turnN v (k - j) = 2 * turnN v (k - (j + 1)) + v / 2 ^ (k - (j + 1)) % 2 := by
      rw [show k - j = (k - (j + 1)) + 1 by omega]; rfl
    have : v / 2 ^ (k - (j + 1)) % 2 < 2 := Nat.mod_lt _ (by omega)
    omega
theorem turnN_bit (v k j : Nat) (h : j < k) : turnN v k / 2 ^ j % 2 = v / 2 ^ (k - 1 - j) % 2 := by
  rw [turnN_div v k j (by omega), show k - j = (k - 1 - j) + 1 by omega]
  simp only [turnN]
  omega
theorem fst_grow (n : List Nat) (j m : Nat) : 2 ^ (m + 1) * (fst n j + cnt n j) ≤ fst n (j + m + 1) := by
  induction m with
  | zero => simp [fst]
  | succ m ih =>
    have e : fst n (j + (m + 1) + 1) = 2 * (fst n (j + m + 1) + cnt n (j + m + 1)) := rfl
    rw [e, Nat.pow_succ, Nat.mul_comm (2 ^ (m + 1)) 2, Nat.mul_assoc]
    omega
/-- A code's beginning lies behind all shorter codes. -/
theorem code_above (n : List Nat) (k j c : Nat) (hj : j < k) (hc : fst n k ≤ c) : fst n j + cnt n j ≤ c / 2 ^ (k - j) := by
  have h := fst_grow n j (k - j - 1)
  rw [show j + (k - j - 1) + 1 = k by omega, show k - j - 1 + 1 = k - j by omega] at h
  rw [Nat.le_div_iff_mul_le (Nat.two_pow_pos _), Nat.mul_comm]
  omega
theorem half_bit (c m : Nat) : 2 * (c / 2 ^ (m + 1)) + c / 2 ^ m % 2 = c / 2 ^ m := by
  rw [Nat.pow_succ, ← Nat.div_div_eq_div_mul]; omega
/-- A symbol's code is read as the symbol. -/
theorem nxtF_code (n : List Nat) (s : ByteArray) (S k c a : Nat) (hk : n.getD S 0 = k) (hk1 : 1 ≤ k) (hS : S < n.length) (hc : codeAt n S = c)
    (hb : ∀ j, j < k → rdVal s (a + j) 1 = c / 2 ^ (k - 1 - j) % 2) (hs : a + k ≤ 8 * s.size) :
    ∀ d j f, d + j + 1 = k → d + 1 ≤ f → nxtF n s f (j + 1) (a + j) (c / 2 ^ (d + 1)) = (some S, a + k, false) := by
  have hfc : fst n k ≤ c := by
    rw [← hc]; unfold codeAt; rw [hk, if_neg (by omega)]; omega
  intro d
  induction d with
  | zero =>
    intro j f hj hf
    obtain ⟨f, rfl⟩ : ∃ f', f = f' + 1 := ⟨f - 1, by omega⟩
    have e : 2 * (c / 2 ^ (0 + 1)) + rdVal s (a + j) 1 = c := by
      rw [hb j (by omega), show k - 1 - j = 0 by omega, half_bit]; simp
    have hsy : symAt n (j + 1) c = some S := by
      rw [show j + 1 = k by omega, ← hc]; exact symAt_code n S k hk1 hS hk
    rw [nxtF_some (by omega) (by rw [e]; exact hsy)]
    have : a + j + 1 = a + k := by omega
    rw [this]
  | succ d ih =>
    intro j f hj hf
    obtain ⟨f, rfl⟩ : ∃ f', f = f' + 1 := ⟨f - 1, by omega⟩
    have e : 2 * (c / 2 ^ (d + 1 + 1)) + rdVal s (a + j) 1 = c / 2 ^ (d + 1) := by
      rw [hb j (by omega), show k - 1 - j = d + 1 by omega, half_bit]
    have hab := code_above n k (j + 1) c (by omega) hfc
    rw [show k - (j + 1) = d + 1 by omega] at hab
    have hsy : symAt n (j + 1) (c / 2 ^ (d + 1)) = none := symAt_none' _ _ _ (by omega)
    rw [nxtF_none (by omega) (by rw [e]; exact hsy), e, Nat.add_assoc a j 1]
    exact ih (j + 1) f (by omega) (by omega)
theorem val_bit1 (k t j : Nat) (h : j < k) : val (((low k t).drop j).take 1) = t / 2 ^ j % 2 := by
  rw [val_take _ _ (by rw [List.length_drop, length_low]; omega), val_drop _ _ (by rw [length_low]; omega), val_low]
  have e : 2 ^ k = 2 ^ j * 2 ^ (k - j) := by rw [← Nat.pow_add]; congr 1; omega
  rw [e, Nat.mod_mul_right_div_self, show k - j = (k - j - 1) + 1 by omega, Nat.pow_succ, Nat.pow_one, Nat.mod_mul_left_mod]
/-- Of written symbols the one behind A is read. -/
theorem nxt_back (n : List Nat) (A B : List Bool) (S : Nat) (hps : psum n 16 ≤ 32768) (h15 : ∀ x ∈ n, x ≤ 15) (hS : S < n.length) (h0 : n.getD S 0 ≠ 0) :
    nxt n (strOf (pack (A ++ symBits n S ++ B))) A.length false = (some S, (A ++ symBits n S).length, false) := by
  have hc := codeAt_lt n hps h15 S hS
  have hk15 : n.getD S 0 ≤ 15 := by rw [List.getD, List.getElem?_eq_getElem hS]; exact h15 _ (List.getElem_mem hS)
  have h := nxtF_code n (strOf (pack (A ++ symBits n S ++ B))) S (n.getD S 0) (codeAt n S) A.length rfl (by omega) hS rfl (fun j hj => by
      rw [rdVal_mid _ _ _ _ _ (by rw [length_symBits]; omega), symBits, val_bit1 _ _ _ hj, turnN_bit _ _ _ hj])
    (by rw [size_pack, List.length_append, List.length_append, length_symBits]; omega) (n.getD S 0 - 1) 0 15 (by omega) (by omega)
  rw [show n.getD S 0 - 1 + 1 = n.getD S 0 by omega, Nat.div_eq_of_lt hc.2] at h
  rw [List.length_append, length_symBits]
  exact h

end Go.Proofs.YtdehkaknbmbieaaGreat
namespace Go.Proofs.YtdehkaknbmbieaaGreat
set_option linter.unusedVariables false
set_option linter.unusedSimpArgs false
set_option linter.unusedSectionVars false
open Go.RowKit
set_option linter.unusedVariables false

theorem IntsIn.of_row {w : World} {g n cap : Nat} {U : List Nat} (h : Row w 3 1 (.slice (some ⟨g, 0, none⟩) n cap) n (i64s U)) (hb : ∀ x ∈ U, x ≤ 1099511627776) : IntsIn w (some ⟨g, 0, none⟩) (U.map fun x : Nat => (x : Int)).length (U.map fun x : Nat => (x : Int)) :=
  ⟨rfl, fun i hi => by
    have hi' : i < U.length := by simpa using hi
    refine ⟨g, 0, rfl, ?_, ?_⟩
    · rw [Nat.zero_add, Row.cell h i (i64s_get _ _ _ (List.getElem?_eq_getElem hi'))]; simp
    · have := hb _ (List.getElem_mem hi')
      simp only [List.getElem_map]; omega⟩
theorem bind_ok {α β : Type} {x : Except Nat α} {f : α → Except Nat β} {y : β} (h : x >>= f = .ok y) : ∃ r, x = .ok r ∧ f r = .ok y := by
  cases x with
  | error c => cases h
  | ok r => exact ⟨r, rfl, h⟩
theorem map_ok {α β : Type} {x : Except Nat α} {f : α → β} {y : β} (h : x.map f = .ok y) : ∃ r, x = .ok r ∧ f r = y := by
  cases x with
  | error c => cases h
  | ok r => cases h; exact ⟨r, rfl, rfl⟩

def fixA : List Int := ints (fixP 4)
def fixB : List Int := ints (List.replicate 32 5)
def tabSyms (s : ByteArray) (most F : Nat) (out : List Nat) (r : (List Nat × List Nat) × Nat) : Except Nat (List Nat × Nat) := symsP (ints r.1.1) (ints r.1.2) s most F out r.2
/-- What a block of this kind makes. -/
def kindP (s : ByteArray) (most F : Nat) (out : List Nat) (r : Nat × Nat) : Except Nat (List Nat × Nat) :=
  if r.1 = 0 then storeP s most out r.2 else
    if r.1 = 1 then symsP fixA fixB s most F out r.2 else
      if r.1 = 2 then tablesP s r.2 >>= tabSyms s most F out else .error 2
def lastP (k : Nat) (q : List Nat × Nat) : Except Nat ((Bool × List Nat) × Nat) := .ok ((k == 1, q.1), q.2)
def blockP (s : ByteArray) (most F : Nat) (out : List Nat) (a : Nat) : Except Nat ((Bool × List Nat) × Nat) :=
  takeP s a 1 >>= fun r => (takeP s r.2 2 >>= kindP s most F out) >>= lastP r.1

theorem alTo_ge (a : Nat) : a ≤ alTo a false := by unfold alTo; simp; omega
theorem storeP_adv {s : ByteArray} {most : Nat} {out out' : List Nat} {a a' : Nat} (h : storeP s most out a = .ok (out', a')) : a ≤ a' := by
  obtain ⟨r, h1, h2⟩ := bind_ok h
  obtain ⟨r2, h3, h4⟩ := bind_ok h2
  have e1 := takeP_adv h1
  have e2 := takeP_adv h3
  have e0 := alTo_ge a
  unfold storeEnd at h4
  split at h4
  · split at h4
    · cases h4
    · rename_i hb
      split at h4
      · cases h4
        unfold txTo
        rw [if_neg hb]
        omega
      · cases h4
  · cases h4
theorem symsP_adv {l1 l2 : List Int} {s : ByteArray} {most : Nat} : ∀ (g : Nat) {out out' : List Nat} {a a' : Nat}, symsP l1 l2 s most g out a = .ok (out', a') → a ≤ a' := by
  intro g
  induction g with
  | zero => intro out out' a a' h; cases h
  | succ g ih =>
    intro out out' a a' h
    obtain ⟨⟨sym, a1⟩, h1, h2⟩ := bind_ok h
    have e1 := nextP_adv h1
    unfold symStep at h2
    simp only at h2
    split at h2
    · cases h2; omega
    · split at h2
      · split at h2
        · have := ih h2; omega
        · cases h2
      · obtain ⟨⟨o, a2⟩, h3, h4⟩ := bind_ok h2
        have e2 := copyP_adv h3
        have := ih h4
        simp only at this
        omega
theorem againP_adv {s : ByteArray} {sym : Nat} {L : List Nat} {a a' : Nat} {r : Nat × Nat} (h : againP s sym L a = .ok (r, a')) : a ≤ a' := by
  unfold againP at h
  split at h
  · split at h
    · cases h
    · obtain ⟨q, h1, h2⟩ := map_ok h; have := takeP_adv h1; cases h2; exact this
  · split at h
    · obtain ⟨q, h1, h2⟩ := map_ok h; have := takeP_adv h1; cases h2; exact this
    · obtain ⟨q, h1, h2⟩ := map_ok h; have := takeP_adv h1; cases h2; exact this
theorem oneP_adv {s : ByteArray} {k : Nat} {L : List Nat} {a a' : Nat} {r : Nat × Nat} (h : oneP s k L a = .ok (r, a')) : a ≤ a' := by
  unfold oneP at h
  split at h
  · exact againP_adv h
  · cases h; omega
theorem rowP_adv {l : List Int} {s : ByteArray} {many : Nat} : ∀ (f : Nat) {L L' : List Nat} {a a' : Nat}, rowP l s many f L a = .ok (L', a') → a ≤ a' := by
  intro f
  induction f with
  | zero => intro L L' a a' h; cases h; omega
  | succ f ih =>
    intro L L' a a' h
    simp only [rowP] at h
    split at h
    · split at h
      · cases h
      · rename_i r hr
        have e1 := nextP_adv (x := r.1) (a' := r.2) hr
        split at h
        · cases h
        · rename_i q hq
          have e2 := oneP_adv (r := q.1) (a' := q.2) hq
          split at h
          · have := ih h; omega
          · cases h
    · cases h; omega
theorem firstP_adv {s : ByteArray} : ∀ (m : Nat) {i : Nat} {L L' : List Nat} {a a' : Nat}, firstP s m i L a = .ok (L', a') → a ≤ a' := by
  intro m
  induction m with
  | zero => intro i L L' a a' h; cases h; omega
  | succ m ih =>
    intro i L L' a a' h
    simp only [firstP] at h
    split at h
    · cases h
    · rename_i r hr
      have e1 := takeP_adv (v := r.1) (a' := r.2) hr
      have := ih h
      omega
/-- What tables that are right give. -/
theorem tablesP_ok {s : ByteArray} {a a' : Nat} {A B : List Nat} (h : tablesP s a = .ok ((A, B), a')) : a ≤ a' ∧ A.length ≤ 286 ∧ B.length ≤ 30 ∧ ∀ x ∈ A ++ B, x ≤ 15 := by
  obtain ⟨⟨n, a1⟩, h1, h⟩ := bind_ok h
  obtain ⟨⟨m, a2⟩, h2, h⟩ := bind_ok h
  obtain ⟨⟨k, a3⟩, h3, h⟩ := bind_ok h
  have e1 := takeP_adv h1
  have e2 := takeP_adv h2
  have e3 := takeP_adv h3
  simp only at e2 e3 h
  unfold tabFirst at h
  split at h
  · rename_i hnm
    obtain ⟨⟨L, a4⟩, h4, h⟩ := bind_ok h
    have e4 := firstP_adv _ h4
    unfold tabRow at h
    split at h
    · obtain ⟨⟨L', a5⟩, h5, h⟩ := bind_ok h
      have e5 := rowP_adv _ h5
      obtain ⟨hl, h15⟩ := rowP_ok _ _ _ _ _ (by simp) (by simp) (by simp) h5
      unfold tabEnd at h
      split at h
      · split at h
        · cases h
          dsimp only at *
          refine ⟨by omega, by rw [List.length_take]; omega, by rw [List.length_drop]; omega, ?_⟩
          rw [List.take_append_drop]; exact h15
        · cases h
      · cases h
    · cases h
  · cases h
theorem kindP_adv {s : ByteArray} {most F k : Nat} {out out' : List Nat} {a a' : Nat} (h : kindP s most F out (k, a) = .ok (out', a')) : a ≤ a' := by
  unfold kindP at h
  split at h
  · exact storeP_adv h
  · split at h
    · exact symsP_adv _ h
    · split at h
      · obtain ⟨⟨⟨A, B⟩, a1⟩, h1, h2⟩ := bind_ok h
        have := (tablesP_ok h1).1
        have := symsP_adv _ (show symsP (ints A) (ints B) s most F out a1 = .ok (out', a') from h2)
        simp only at *
        omega
      · cases h
theorem takeP_to {s : ByteArray} {a n v a' : Nat} (h : takeP s a n = .ok (v, a')) : a' = a + n := by
  unfold takeP at h
  split at h
  · cases h; rfl
  · cases h
theorem fix_lens : fixA.length = 288 ∧ fixB.length = 32 := by
  have hL4 : (fixP 4).length = 288 := by
    unfold fixP fixRows
    simp only [List.take_succ_cons, List.take_nil, List.flatMap_cons, List.flatMap_nil, List.length_append, List.length_replicate, List.length_nil]
  exact ⟨by unfold fixA; rw [length_ints, hL4], by unfold fixB; rw [length_ints]; simp⟩
theorem fixP_le (x : Nat) (h : x ∈ fixP 4) : x ≤ 9 := by
  unfold fixP fixRows at h
  simp only [List.take_succ_cons, List.take_nil, List.flatMap_cons, List.flatMap_nil, List.mem_append, List.mem_replicate, List.not_mem_nil, or_false] at h
  omega
end Go.Proofs.YtdehkaknbmbieaaGreat

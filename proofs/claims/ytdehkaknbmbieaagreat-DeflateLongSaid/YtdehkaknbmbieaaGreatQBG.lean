/- Packages lz, block: Count, store: walks. -/
import Derived.OwnWalk
import Derived.Test.YtdehkaknbmbieaaGreatTaW
import Derived.Test.YtdehkaknbmbieaaGreatQAR
import Derived.Test.YtdehkaknbmbieaaGreatQBB
namespace Go.Proofs.YtdehkaknbmbieaaGreat
set_option linter.unusedVariables false
set_option linter.unusedSimpArgs false
set_option linter.unusedSectionVars false
open Go.RowKit
attribute [local go_sem] Oper.semAt_some
set_option linter.unusedVariables false
set_option linter.unusedSimpArgs false

theorem xor_lowB (n : Nat) (h : n < 65536) : n ^^^ 65535 = 65535 - n := by
  have h2 : BitVec.ofNat 16 n ^^^ 65535#16 = 65535#16 - BitVec.ofNat 16 n := by
    rw [show (65535#16 : BitVec 16) = BitVec.allOnes 16 from rfl, BitVec.xor_allOnes, BitVec.allOnes_sub_eq_not]
  have h3 := congrArg BitVec.toNat h2
  have e1 : n % 2 ^ 16 = n := Nat.mod_eq_of_lt h
  have e2 : 65535 % 2 ^ 16 = 65535 := rfl
  simp only [BitVec.toNat_xor, BitVec.toNat_ofNat, BitVec.toNat_sub, e1, e2] at h3
  omega
theorem xor_i64B (n : Nat) (h : n < 65536) : bits .xor .i64 (n : Int) 65535 = ((65535 - n : Nat) : Int) := by
  have h1 : (BitVec.ofInt 64 (n : Int)).toNat = n := by
    rw [BitVec.ofInt_natCast, BitVec.toNat_ofNat]; exact Nat.mod_eq_of_lt (by omega)
  have h2 : (BitVec.ofInt 64 65535).toNat = 65535 := by rfl
  show IntKind.i64.wrap ((BitVec.ofInt 64 (n : Int) ^^^ BitVec.ofInt 64 65535).toNat : Int) = _
  rw [BitVec.toNat_xor, h1, h2, xor_lowB n h]
  exact IntWalk.i64_in _ (by omega)

def litN (l : List Tok) : Nat := l.countP fun t => decide (t.long = 0)
def farN (l : List Tok) : Nat := l.countP fun t => decide (t.long ≠ 0)
theorem litN_snoc (l : List Tok) (t : Tok) : litN (l ++ [t]) = litN l + if t.long = 0 then 1 else 0 := by unfold litN; rw [List.countP_append]; simp [List.countP_cons]
theorem farN_snoc (l : List Tok) (t : Tok) : farN (l ++ [t]) = farN l + if t.long = 0 then 0 else 1 := by
  unfold farN
  rw [List.countP_append]
  by_cases h : t.long = 0 <;> simp [List.countP_cons, h]
theorem litN_le (l : List Tok) : litN l ≤ l.length := List.countP_le_length
theorem farN_le (l : List Tok) : farN l ≤ l.length := List.countP_le_length
def CountP9 (l : List Tok) (w : World) (e : Ending) (w' : World) : Prop := e = .returned (.tuple #[.int .i64 (litN l : Nat), .int .i64 (farN l : Nat)]) ∧ Upd [] w w'
set_option maxRecDepth 100000 in
set_option maxHeartbeats 6400000 in
theorem lzCount_any (l : List Tok) (a : Option Addr) (n cap : Nat) (w : World) (hI : TokIn w a n l) (hn : n ≤ 100000) :
    Calls Tryz.prog 20 #[.slice a n cap] w fun e w' => CountP9 l w e w' := by
  have HI := Lib.hid hI
  have HLN := Lib.hid hI.len
  clear hI
  go_enter Tryz.func20, Tryz.ntmps20
  go_wp2
  go_loopg [2, 3, 8] 200000 (fun gg s2 s3 s8 wr => ∃ i : Nat, i ≤ n ∧ gg = 200000 - i ∧ s8 = .int .i64 (i : Nat) ∧ s2 = .int .i64 (litN (l.take i) : Nat) ∧ s3 = .int .i64 (farN (l.take i) : Nat) ∧ Hid (Upd [] w wr))
  case atStart => exact ⟨0, by omega, by omega, rfl, rfl, rfl, Lib.hid (Upd.refl _ _)⟩
  case round =>
    obtain ⟨i, hin, rfl, rfl, rfl, rfl, HU⟩ := hrel
    have h1 : litN (l.take i) ≤ i := Nat.le_trans (litN_le _) (List.length_take_le _ _)
    have h2 : farN (l.take i) ≤ i := Nat.le_trans (farN_le _) (List.length_take_le _ _)
    by_cases hc : i < n
    · have hcz : (i : Int) < (n : Int) := by omega
      have hil : i < l.length := by rw [HLN.out]; exact hc
      have hw1 : IntKind.i64.wrap ((i : Int) + 1) = ((i + 1 : Nat) : Int) := by rw [IntWalk.i64_in _ (by omega)]; rfl
      obtain ⟨b, off, rfl, ⟨hc1, hc2, hc3⟩, r1, r2, r3⟩ := (HI.out.pure HU.out).cell i hil
      have HL : Hid (litN (l.take (i + 1)) = litN (l.take i) + if l[i].long = 0 then 1 else 0) := Lib.hid (by rw [List.take_succ_eq_append_getElem hil, litN_snoc])
      have HF : Hid (farN (l.take (i + 1)) = farN (l.take i) + if l[i].long = 0 then 0 else 1) := Lib.hid (by rw [List.take_succ_eq_append_getElem hil, farN_snoc])
      generalize l[i] = t at *
      obtain ⟨tb, tl, tk⟩ := t
      dsimp only at hc1 hc2 hc3 r1 r2 r3
      have HU4 := Lib.hid (HU.out.alloc (.cells #[.int .u8 (tb : Nat), .int .i64 tl, .int .i64 tk] 49))
      generalize litN (l.take i) = A at *
      generalize farN (l.take i) = B at *
      have hwA : IntKind.i64.wrap ((A : Int) + 1) = ((A + 1 : Nat) : Int) := by rw [IntWalk.i64_in _ (by omega)]; rfl
      have hwB : IntKind.i64.wrap ((B : Int) + 1) = ((B + 1 : Nat) : Int) := by rw [IntWalk.i64_in _ (by omega)]; rfl
      clear hil
      by_cases h0 : tl = 0
      · have HL0 : Hid (litN (l.take (i + 1)) = A + 1) := Lib.hid (by rw [HL.out, if_pos h0])
        have HF0 : Hid (farN (l.take (i + 1)) = B) := Lib.hid (by rw [HF.out, if_pos h0]; rfl)
        clear HL HF
        subst h0
        go_wp2
        go_roundg (200000 - (i + 1))
        · exact ⟨i + 1, by omega, by omega, by first | rfl | go_num, by rw [HL0.out]; first | rfl | go_num, by rw [HF0.out], HU4⟩
        · omega
      · have h0b : (tl == 0) = false := by simpa using h0
        have HL0 : Hid (litN (l.take (i + 1)) = A) := Lib.hid (by rw [HL.out, if_neg h0]; rfl)
        have HF0 : Hid (farN (l.take (i + 1)) = B + 1) := Lib.hid (by rw [HF.out, if_neg h0])
        clear HL HF
        go_wp2
        go_roundg (200000 - (i + 1))
        · exact ⟨i + 1, by omega, by omega, by first | rfl | go_num, by rw [HL0.out], by rw [HF0.out]; first | rfl | go_num, HU4⟩
        · omega
    · have hcz : ¬ (i : Int) < (n : Int) := by omega
      obtain rfl : i = n := by omega
      have htk : l.take i = l := List.take_of_length_le (by rw [HLN.out]; exact Nat.le_refl _)
      rw [htk]
      clear htk h1 h2
      go_wp2
      go_ret2
      exact ⟨rfl, HU.out⟩
/-- The bytes of tokens that are one byte each. -/
def litBytes (l : List Tok) : List Nat := l.map Tok.byte
def storeL (L : List Bool) (bs : List Nat) : List Bool := alignL L ++ low 16 bs.length ++ low 16 (65535 - bs.length) ++ textBits bs
set_option maxRecDepth 100000 in
set_option maxHeartbeats 12800000 in
theorem bstore_any (l : List Tok) (b : Nat) (v : Value) (L : List Bool) (a : Option Addr) (n cap : Nat) (w : World) (hI : ∀ w', Upd (wrFp b v) w w' → TokIn w' a n l)
    (hW : WrAt w b v L (L.length / 8)) (hL : L.length ≤ 100000000000) (hn : n ≤ 65535) :
    Calls Tryz.prog 22 #[.pointer (some ⟨b, 0, none⟩), .slice a n cap] w (SymsP w b v (storeL L (litBytes l))) := by
  obtain ⟨i0, hi, hz0, hz1, hz2⟩ := info_parts infoU8
  have HI := Lib.hid hI
  have HLN := Lib.hid (hI w (Upd.refl _ _)).len
  have HBY : Hid (∀ t ∈ l, t.byte < 256) := Lib.hid (fun t ht => by
    obtain ⟨i, hi, rfl⟩ := List.getElem_of_mem ht
    obtain ⟨_, _, _, _, r, _⟩ := (hI w (Upd.refl _ _)).cell i hi
    exact r)
  have HW := Lib.hid (WS.refl hW)
  clear hI hW
  go_enter Tryz.func22, Tryz.ntmps22
  go_wp2_with (refine wpList_make_own w rfl _ _ 28 rfl 0 5 i0 _ 1 Tryz.underlying28 hi hz0 hz1 .i64 .i64 (n : Int) n rfl rfl rfl (by rw [hz2]; omega) (by unfold maxLen; omega) (Nat.zero_le _) ?_; intro w1 hR1 hG1)
  have hU1 : Upd [] w w1 := (Upd.refl [] w).grown hG1 (by simp)
  have HR1 : Hid (Row w1 5 1 (.slice (some ⟨w.heap.size, 0, none⟩) 0 n) 0 []) := Lib.hid hR1
  have HO1 : Hid (∀ k, (Value.slice (some ⟨w.heap.size, 0, none⟩) 0 n).ownBlock = some k → w.heap.size ≤ k) := Lib.hid (fun k hk => by simp [Value.ownBlock] at hk; omega)
  have HU1 := Lib.hid hU1
  clear hR1 hG1 hU1
  go_loopg [4, 12] 200000 (fun gg s4 s12 wr => ∃ i : Nat, i ≤ n ∧ gg = 200000 - i ∧ s12 = .int .i64 (i : Nat) ∧ Hid (Row wr 5 1 s4 i (u8s (litBytes (l.take i)))) ∧ Hid (∀ k, s4.ownBlock = some k → w.heap.size ≤ k) ∧ Hid (Upd [] w wr))
  case atStart => exact ⟨0, by omega, by omega, rfl, HR1, HO1, HU1⟩
  case round =>
    clear HR1 HO1 HU1
    obtain ⟨i, hin, rfl, rfl, HR, HO, HU⟩ := hrel
    obtain ⟨va, vc, hv⟩ := HR.out.form
    subst hv
    by_cases hc : i < n
    · have hcz : (i : Int) < (n : Int) := by omega
      have hil : i < l.length := by rw [HLN.out]; exact hc
      have hw1 : IntKind.i64.wrap ((i : Int) + 1) = ((i + 1 : Nat) : Int) := by rw [IntWalk.i64_in _ (by omega)]; rfl
      obtain ⟨bt, off, rfl, ⟨hc1, hc2, hc3⟩, r1, r2, r3⟩ := (HI.out wr (HU.out.mono (by simp))).cell i hil
      have HST : Hid (u8s (litBytes (l.take (i + 1))) = u8s (litBytes (l.take i)) ++ [.int .u8 (l[i].byte : Nat)]) := Lib.hid (by
        rw [List.take_succ_eq_append_getElem hil]
        unfold litBytes
        rw [List.map_append, u8s_append]
        rfl)
      generalize l[i] = t at *
      obtain ⟨tb, tl, tk⟩ := t
      dsimp only at hc1 hc2 hc3 r1 r2 r3 HST
      have hT4 := Blk.new wr [.int .u8 (tb : Nat), .int .i64 tl, .int .i64 tk] 49
      have hU4 := (Upd.refl [] wr).alloc (.cells #[.int .u8 (tb : Nat), .int .i64 tl, .int .i64 tk] 49)
      have hR4 := HR.out.alloc (.cells #[.int .u8 (tb : Nat), .int .i64 tl, .int .i64 tk] 49)
      have hq := HR.out.lt
      clear hil HR
      go_upto_region 4 with fail
      change Code.wp _ _ _ _ (wr.alloc (.cells #[.int .u8 (tb : Nat), .int .i64 tl, .int .i64 tk] 49))
      have HU4 := Lib.hid (HU.out.then hU4)
      generalize wr.alloc (.cells #[.int .u8 (tb : Nat), .int .i64 tl, .int .i64 tk] 49) = w4 at *
      generalize wr.heap.size = q at *
      have t0 := hT4.cell 0 rfl
      have hRz := hR4.alloc (.cells #[.int .u8 (tb : Nat)] 5)
      have HNW : Hid (∀ j u, ([.int .u8 (tb : Nat)] : List Value)[j]? = some u → (w4.alloc (.cells #[.int .u8 (tb : Nat)] 5)).cell? ((⟨w4.heap.size, 0, none⟩ : Addr).add j) = some u) := Lib.hid (World.news_of_block (cs := #[.int .u8 (tb : Nat)]) (t := 5) (fr := (0, 0)) (heap_alloc_new _ _))
      clear hU4 hR4 hT4 hc1 hc2 hc3 hq
      go_wp2_with (at_builtin; refine wpList_app _ rfl _ _ 28 rfl 5 i0 _ 1 1 Tryz.underlying28 hi hz0 hz1 hz2 rfl (by omega) (.slice va i vc) i _ rfl hRz ⟨w4.heap.size, 0, none⟩ 1 1 [.int .u8 (tb : Nat)] rfl rfl HNW.out (by simp [Value.oneCell']) (by unfold maxLen; omega) (by omega) ?_)
      intro v7 w7 hR7 hU7 hT7
      have hUa := ((Upd.refl [] w4).alloc (.cells #[.int .u8 (tb : Nat)] 5)).mono (fp' := (Value.slice va i vc).ownBlock.toList) (fun k hk => by simp at hk) |>.then hU7
      have HR7 : Hid (Row w7 5 1 v7 (i + 1) (u8s (litBytes (l.take (i + 1))))) := Lib.hid (by rw [HST.out]; exact hR7)
      have HO7 : Hid (∀ k, v7.ownBlock = some k → w.heap.size ≤ k) := Lib.hid (fun k hk => by
        rcases hT7 with h | ⟨g', h1, h2⟩
        · exact HO.out k (by rw [← h]; exact hk)
        · rw [hk] at h1; cases h1; have := (HU4.out.alloc (.cells #[.int .u8 (tb : Nat)] 5)).size; exact Nat.le_trans this h2)
      have HU7 := Lib.hid (HU4.out.trans hUa (fun k hk => .inr (HO.out k (by simpa using hk))))
      clear hR7 hU7 hT7 hUa hRz HNW t0 HO HST
      go_wp2
      go_roundg (200000 - (i + 1))
      · exact ⟨i + 1, by omega, by omega, by first | rfl | go_num, HR7, HO7, HU7⟩
      · omega
    · have hcz : ¬ (i : Int) < (n : Int) := by omega
      obtain rfl : i = n := by omega
      have htk : l.take i = l := List.take_of_length_le (by rw [HLN.out]; exact Nat.le_refl _)
      rw [htk] at HR
      clear htk
      have HWr := Lib.hid (HW.out.pure HU.out)
      have HBs : Hid ((litBytes l).length = i) := Lib.hid (by unfold litBytes; rw [List.length_map, HLN.out])
      have HB256 : Hid (∀ x ∈ litBytes l, x < 256) := Lib.hid (fun x hx => by obtain ⟨t, ht, rfl⟩ := List.mem_map.1 hx; exact HBY.out t ht)
      generalize litBytes l = bs at *
      have HON : Hid (∀ k, (Value.slice va i vc).ownBlock = some k → k ∉ wrFp b v) := Lib.hid (fun k hk => notin_new HW.out (HO.out k hk))
      have hRl := HR.out.lt
      have HRL := Lib.hid hRl
      have HBX := Lib.hid (align_any b wr v L HWr.out.at_ (by omega))
      clear HO HW hRl
      go_wp2_with fail
      refine HBX.out.mono ?_
      rintro e w2 ⟨rfl, v2, h1', h2', h3⟩
      have HW2 := Lib.hid (HWr.out.step h1' h2' h3)
      have HR2 := Lib.hid (HR.out.upd h2' HON.out)
      have HN2 : Hid (∀ k, (Value.slice va i vc).ownBlock = some k → k ∉ wrFp b v2) := Lib.hid (fun k hk => notin_later (HON.out k hk) (HRL.out k hk) h3)
      have hRL2 := HR2.out.lt
      have HRL2 := Lib.hid hRL2
      obtain ⟨L2, hL2⟩ : ∃ L2, alignL L = L2 := ⟨_, rfl⟩
      have hl2 : L2.length ≤ 100000000008 := by rw [← hL2, length_alignL]; omega
      rw [hL2] at HW2
      have HL2 := Lib.hid hL2
      have hxc : IntKind.u32.wrap (i : Int) = (i : Int) := by simp [IntKind.wrap, IntKind.bits, IntKind.signed]; omega
      have hxc' : ((i : Int) % 4294967296) = (i : Int) := by omega
      clear h1' h2' h3 HBX HWr HR HON HRL hRL2 hL2
      have HBX := Lib.hid (bits_any b i ((i : Nat) : Int) 16 16 w2 v2 L2 rfl (by omega) HW2.out.at_ (by omega) (by omega) (Lib.hid (by omega)))
      go_wp2_with fail
      refine HBX.out.mono ?_
      rintro e w3 ⟨rfl, v3, h1', h2', h3⟩
      have HW3 := Lib.hid (HW2.out.step h1' h2' h3)
      have HR3 := Lib.hid (HR2.out.upd h2' HN2.out)
      have HN3 : Hid (∀ k, (Value.slice va i vc).ownBlock = some k → k ∉ wrFp b v3) := Lib.hid (fun k hk => notin_later (HN2.out k hk) (HRL2.out k hk) h3)
      have hRL3 := HR3.out.lt
      have HRL3 := Lib.hid hRL3
      obtain ⟨L3, hL3⟩ : ∃ L3, L2 ++ low 16 i = L3 := ⟨_, rfl⟩
      have hl3 : L3.length ≤ 100000000024 := by rw [← hL3, List.length_append, length_low]; omega
      rw [hL3] at HW3
      have HL3 := Lib.hid hL3
      have hxo := xor_i64B i (by omega)
      obtain ⟨x5, hx5⟩ : ∃ x5, 65535 - i = x5 := ⟨_, rfl⟩
      rw [hx5] at hxo
      have hx5b : x5 ≤ 65535 := by omega
      have HX5 := Lib.hid hx5
      have hxd : IntKind.u32.wrap (x5 : Int) = (x5 : Int) := by simp [IntKind.wrap, IntKind.bits, IntKind.signed]; omega
      have hxd' : ((x5 : Int) % 4294967296) = (x5 : Int) := by omega
      clear h1' h2' h3 HBX HW2 HR2 HN2 HRL2 hRL3 hL3 hxc hxc' hx5
      have HBX := Lib.hid (bits_any b x5 ((x5 : Nat) : Int) 16 16 w3 v3 L3 rfl (by omega) HW3.out.at_ (by omega) (by omega) (Lib.hid (by omega)))
      go_wp2_with fail
      refine HBX.out.mono ?_
      rintro e w4 ⟨rfl, v4, h1', h2', h3⟩
      have HW4 := Lib.hid (HW3.out.step h1' h2' h3)
      have hR4 := HR3.out.upd h2' HN3.out
      obtain ⟨L4, hL4⟩ : ∃ L4, L3 ++ low 16 x5 = L4 := ⟨_, rfl⟩
      have hl4 : L4.length ≤ 100000000040 := by rw [← hL4, List.length_append, length_low]; omega
      have h8 : L4.length % 8 = 0 := by rw [← hL4, ← HL3.out, ← HL2.out, List.length_append, List.length_append, length_low, length_low, length_alignL]; omega
      rw [hL4] at HW4
      have HL4 := Lib.hid hL4
      have hcv := run_conv_row (P := Tryz.prog) w4 28 9 5 Tryz.underlying28 Tryz.underlying5 Tryz.underlying9 (v := .slice va i vc) (n := i) (l := bs) hR4
      have hsz : (strOf bs).size = i := by rw [size_strOf, HBs.out]
      have HTX := Lib.hid (text_any b (strOf bs) w4 v4 L4 HW4.out.at_ (by omega) (by omega))
      rw [alignL_of L4 h8, bytesOf_strOf bs HB256.out] at HTX
      have HF : Hid (storeL L bs = L4 ++ textBits bs) := Lib.hid (by unfold storeL; rw [HBs.out, HX5.out, ← HL4.out, ← HL3.out, ← HL2.out])
      generalize strOf bs = SS at *
      clear h1' h2' h3 HBX HW3 HR3 HN3 HRL3 hR4 hL4 hxo hxd hxd' h8 hsz
      go_wp2_with fail
      refine HTX.out.mono ?_
      rintro e w5 ⟨rfl, v5, h1', h2', h3⟩
      have HW5 := Lib.hid (HW4.out.step h1' h2' h3)
      clear h1' h2' h3 HTX HW4 hcv
      go_wp2
      go_returns
      exact ⟨rfl, v5, by rw [HF.out]; exact HW5.out⟩
end Go.Proofs.YtdehkaknbmbieaaGreat
namespace Go.Proofs.YtdehkaknbmbieaaGreat
set_option linter.unusedVariables false
set_option linter.unusedSimpArgs false
set_option linter.unusedSectionVars false
set_option linter.unusedVariables false
set_option linter.unusedSimpArgs false

theorem wsum_set1 : ∀ (m s : Nat), s < m → wsum ((List.replicate m 0).set s 1) = 16384
  | m + 1, 0, _ => by
    rw [List.replicate_succ, List.set_cons_zero]
    have := wsum_zero (List.replicate m 0) (fun x hx => List.eq_of_mem_replicate hx)
    unfold wsum at *
    rw [List.map_cons, List.sum_cons, this]
    rfl
  | m + 1, s + 1, h => by
    rw [List.replicate_succ, List.set_cons_succ]
    have := wsum_set1 m s (by omega)
    unfold wsum at *
    rw [List.map_cons, List.sum_cons, this]
    rfl
/-- What is left of lengths is no Over, and no Empty if a symbol is used. -/
theorem trim_code {many : List Int} {n m : Nat} {u : List Nat} {least : Int} (hn : many.length = n) (h300 : n ≤ 300) (hu : IsUsed many n u) (hm : TrimO (ofL many u 15 n) least n m) :
    kindOf (ints ((ofL many u 15 n).take m)) ≠ 3 ∧ (u ≠ [] → kindOf (ints ((ofL many u 15 n).take m)) ≠ 0) := by
  have hk : u.length ≤ 2 ^ 15 := by have := hu.le; omega
  have hf := of_fits hn hu 15 (by omega) (by omega) hk
  have hl := ofL_len many u 15 n
  have h15 := ofL_le hn hu (L := 15) (by omega) (by omega) hk
  have ho : okLens (ints ((ofL many u 15 n).take m)) = true := okLensI (by rw [List.length_take]; omega) (fun x hx => h15 x (List.mem_of_mem_take hx))
  have hw := wsum_trim hm hl
  have hk2 : kindOf (ints ((ofL many u 15 n).take m)) = kindN ((ofL many u 15 n).take m) := by unfold kindOf; rw [if_pos ho, natsI]
  rw [hk2]
  unfold kindN
  rw [hw]
  rcases Nat.lt_or_ge u.length 2 with h2 | h2
  · rcases Nat.lt_or_ge u.length 1 with h1 | h1
    · have hu0 : u = [] := List.eq_nil_of_length_eq_zero (by omega)
      rw [hf.none hu0, if_pos rfl]
      exact ⟨by omega, fun h => absurd hu0 h⟩
    · obtain ⟨s, rfl⟩ := List.length_eq_one_iff.1 (show u.length = 1 by omega)
      have hs : s < n := ((hu.mem s).1 (by simp)).1
      have e0 : ofL many [s] 15 n = (List.replicate n 0).set s 1 := by simp [ofL]
      rw [e0, wsum_set1 n s hs]
      exact ⟨by decide, fun _ => by decide⟩
  · rw [hf.two h2]
    exact ⟨by decide, fun _ => by decide⟩
theorem trim_get {l : List Nat} {least : Int} {n m j : Nat} (h : TrimO l least n m) (hl : l.length = n) (hj : l.getD j 0 ≠ 0) : (l.take m).getD j 0 = l.getD j 0 := by
  have hjn : j < n := by
    rcases Nat.lt_or_ge j n with h1 | h1
    · exact h1
    · rw [List.getD_eq_getElem?_getD, List.getElem?_eq_none (by omega)] at hj
      exact absurd rfl hj
  have hjm : j < m := by
    rcases Nat.lt_or_ge j m with h1 | h1
    · exact h1
    · exact absurd (h.zero j h1 hjn) hj
  rw [List.getD_eq_getElem?_getD, List.getElem?_take, if_pos hjm, List.getD_eq_getElem?_getD]
theorem stepM_up (p : List Nat × List Nat) (t : Tok) (hl : p.1.length = 286) (h2 : p.2.length = 30) (ht : okTok t) (j : Nat) : p.1.getD j 0 ≤ (stepM p t).1.getD j 0 ∧ p.2.getD j 0 ≤ (stepM p t).2.getD j 0 := by
  constructor
  · show p.1.getD j 0 ≤ (addAt p.1 (litC t)).getD j 0
    rw [addAt_get _ _ _ (by rw [hl]; exact litC_lt ht)]
    omega
  · show p.2.getD j 0 ≤ (if t.long = 0 then p.2 else addAt p.2 (bakC t)).getD j 0
    split
    · exact Nat.le_refl _
    · rename_i h0
      rw [addAt_get _ _ _ (by rw [h2]; exact bakC_lt ht h0)]
      omega
theorem many_has (l : List Tok) (hok : ∀ t ∈ l, okTok t) : ∀ i, i ≤ l.length → ∀ t ∈ l.take i, 1 ≤ (manyF (l.take i)).1.getD (litC t) 0 ∧ (t.long ≠ 0 → 1 ≤ (manyF (l.take i)).2.getD (bakC t) 0)
  | 0, _, t, ht => by simp at ht
  | i + 1, h, t, ht => by
    have hil : i < l.length := by omega
    have ho := many_ok l i (by omega)
    have hu := hok l[i] (List.getElem_mem hil)
    rw [List.take_succ_eq_append_getElem hil] at ht ⊢
    rw [manyF_snoc]
    rcases List.mem_append.1 ht with h1 | h1
    · obtain ⟨a, b⟩ := many_has l hok i (by omega) t h1
      obtain ⟨c, _⟩ := stepM_up _ _ ho.la ho.lb hu (litC t)
      obtain ⟨_, d⟩ := stepM_up _ _ ho.la ho.lb hu (bakC t)
      exact ⟨Nat.le_trans a c, fun h0 => Nat.le_trans (b h0) d⟩
    · rw [List.mem_singleton] at h1
      subst h1
      constructor
      · show 1 ≤ (addAt (manyF (l.take i)).1 (litC l[i])).getD (litC l[i]) 0
        rw [addAt_get _ _ _ (by rw [ho.la]; exact litC_lt hu), if_pos rfl]
        omega
      · intro h0
        show 1 ≤ (if l[i].long = 0 then (manyF (l.take i)).2 else addAt (manyF (l.take i)).2 (bakC l[i])).getD (bakC l[i]) 0
        rw [if_neg h0, addAt_get _ _ _ (by rw [ho.lb]; exact bakC_lt hu h0), if_pos rfl]
        omega
/-- What a plan's lengths are good for. -/
structure PlanOk (l : List Tok) (lits backs : List Nat) : Prop where
  coded : Coded lits backs l
  a3 : kindOf (ints lits) ≠ 3
  a0 : kindOf (ints lits) ≠ 0
  b3 : kindOf (ints backs) ≠ 3
  b0 : (∃ t ∈ l, t.long ≠ 0) → kindOf (ints backs) ≠ 0
theorem MadeO.plan {l : List Tok} {lits backs lens : List Nat} {steps : List StpD} (h : MadeO l lits backs steps lens) (hl : (manyF l).1.length = 286 ∧ (manyF l).2.length = 30) (hok : ∀ t ∈ l, okTok t) : PlanOk l lits backs := by
  obtain ⟨u1, m1, hu1, ht1, e1⟩ := h.a
  obtain ⟨u2, m2, hu2, ht2, e2⟩ := h.b
  have i1 : (ints (manyF l).1).length = 286 := by simp [ints, hl.1]
  have i2 : (ints (manyF l).2).length = 30 := by simp [ints, hl.2]
  have f1 := of_fits i1 hu1 15 (by omega) (by omega) (by have := hu1.le; omega)
  have f2 := of_fits i2 hu2 15 (by omega) (by omega) (by have := hu2.le; omega)
  have l1 := ofL_len (ints (manyF l).1) u1 15 286
  have l2 := ofL_len (ints (manyF l).2) u2 15 30
  have hm : ∀ t ∈ l, 1 ≤ (manyF l).1.getD (litC t) 0 ∧ (t.long ≠ 0 → 1 ≤ (manyF l).2.getD (bakC t) 0) := fun t ht => by
    have := many_has l hok l.length (Nat.le_refl _) t (by rw [List.take_length]; exact ht)
    rwa [List.take_length] at this
  have h256 : 1 ≤ (manyF l).1.getD 256 0 := by have := many_256 l hok l.length (Nat.le_refl _); rwa [List.take_length] at this
  have ga : ∀ j, j < 286 → 1 ≤ (manyF l).1.getD j 0 → lits.getD j 0 ≠ 0 := fun j hj hx => by
    have h1 := (f1.iff j hj).2 (by rw [ints_getD]; omega)
    rw [e1, trim_get ht1 l1 (by omega)]
    omega
  have gb : ∀ j, j < 30 → 1 ≤ (manyF l).2.getD j 0 → backs.getD j 0 ≠ 0 := fun j hj hx => by
    have h1 := (f2.iff j hj).2 (by rw [ints_getD]; omega)
    rw [e2, trim_get ht2 l2 (by omega)]
    omega
  have c1 := trim_code i1 (by omega) hu1 ht1
  have c2 := trim_code i2 (by omega) hu2 ht2
  rw [← e1] at c1
  rw [← e2] at c2
  refine ⟨⟨ga 256 (by omega) h256, fun t ht => ga _ (litC_lt (hok t ht)) (hm t ht).1, fun t ht h0 => gb _ (bakC_lt (hok t ht) h0) ((hm t ht).2 h0)⟩, c1.1, c1.2 ?_, c2.1, fun ⟨t, ht, h0⟩ => c2.2 ?_⟩
  · intro e
    have := (hu1.mem 256).2 ⟨by omega, by rw [ints_getD]; omega⟩
    rw [e] at this
    simp at this
  · intro e
    have := (hu2.mem (bakC t)).2 ⟨bakC_lt (hok t ht) h0, by rw [ints_getD]; have := (hm t ht).2 h0; omega⟩
    rw [e] at this
    simp at this
theorem fixP_all : ∀ j : Fin 288, (fixP 4).getD j.val 0 ≠ 0 := by decide +kernel
theorem fix_kinds : kindOf (ints (fixP 4)) = 1 ∧ kindOf (ints (List.replicate 32 5)) = 1 := by decide +kernel
theorem fix_plan (l : List Tok) (hok : ∀ t ∈ l, okTok t) : PlanOk l (fixP 4) (List.replicate 32 5) := by
  have hb : ∀ j, j < 30 → (List.replicate 32 5).getD j 0 ≠ 0 := fun j hj => by
    rw [List.getD_eq_getElem?_getD, List.getElem?_replicate, if_pos (by omega)]
    simp
  refine ⟨⟨fixP_all ⟨256, by omega⟩, fun t ht => fixP_all ⟨litC t, by have := litC_lt (hok t ht); omega⟩, fun t ht h0 => hb _ (bakC_lt (hok t ht) h0)⟩, ?_, ?_, ?_, fun _ => ?_⟩
  · rw [fix_kinds.1]; omega
  · rw [fix_kinds.1]; omega
  · rw [fix_kinds.2]; omega
  · rw [fix_kinds.2]; omega
/-- The bits behind a block's written ones. -/
def headK (L : List Bool) (kind : Nat) (last : Bool) : List Bool := L ++ low 1 (if last then 1 else 0) ++ low 2 kind
def IsBlock (L : List Bool) (l : List Tok) (kind : Nat) (last : Bool) (M : List Bool) : Prop :=
  (kind = 0 ∧ M = storeL (headK L 0 last) (litBytes l)) ∨ (kind = 1 ∧ M = headK L 1 last ++ symsB (fixP 4) (List.replicate 32 5) l) ∨
  (kind = 2 ∧ ∃ lits backs steps lens t, MadeO l lits backs steps lens ∧ ToldO lens t ∧ M = headK L 2 last ++ tabB lits.length backs.length t lens steps ++ symsB lits backs l)
end Go.Proofs.YtdehkaknbmbieaaGreat

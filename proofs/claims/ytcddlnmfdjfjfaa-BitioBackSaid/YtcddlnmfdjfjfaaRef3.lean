/- The walks of the reference's writer of bits (swingleref03.W): Bits, Align, Text, Bytes. -/
import Derived.Test.YtcddlnmfdjfjfaaBitX
namespace Go.Proofs.Ytcddlnmfdjfjfaa
open Go.RowKit

theorem infoU32 : (Try.prog.info? 32).map (fun i => (i.zero, i.size, i.bytes)) = some (some (.int .u32 0), 1, 4) := by kernel_rfl

/-- Bits as cells. -/
def u32b (l : List Bool) : List Value := l.map fun x : Bool => .int .u32 ((x.toNat : Nat) : Int)
theorem u32b_snoc (l : List Bool) (x : Bool) : u32b (l ++ [x]) = u32b l ++ [.int .u32 ((x.toNat : Nat) : Int)] := by simp [u32b]
theorem length_u32b (l : List Bool) : (u32b l).length = l.length := by simp [u32b]

structure RwAt (w : World) (b : Nat) (v : Value) (L : List Bool) : Prop where
  blk : Blk w b [v] 29
  row : Row w 32 1 v L.length (u32b L)
  far : v.ownBlock ≠ some b
theorem RwAt.upd {w w' : World} {b : Nat} {v : Value} {L : List Bool} {fp : List Nat} (h : RwAt w b v L) (hu : Upd fp w w') (hb : b ∉ fp) (hv : ∀ k, v.ownBlock = some k → k ∉ fp) : RwAt w' b v L :=
  ⟨h.blk.upd hu hb, h.row.upd hu hv, h.far⟩

def RwPost (w : World) (b : Nat) (v : Value) (L : List Bool) (e : Ending) (w' : World) : Prop :=
  e = .returned (.tuple #[]) ∧ ∃ v', RwAt w' b v' L ∧ Upd (wrFp b v) w w' ∧ Later w v v'
def RwRel (w : World) (b : Nat) (v : Value) (L : List Bool) (wr : World) : Prop := ∃ v', RwAt wr b v' L ∧ Upd (wrFp b v) w wr ∧ Later w v v'

/-- One bit more: behind the append and the store. -/
theorem rw_close {w0 w wa w1 : World} {b : Nat} {v v' : Value} {a2 : Option Addr} {c2 : Nat} {L : List Bool} {x : Bool} {u : Value} (hW : RwAt w b v' L) (hU : Upd (wrFp b v) w0 w) (hLt : Later w0 v v')
    (hwa : Upd [] w wa) (hU2 : Upd v'.ownBlock.toList wa w1) (hT2 : Later wa v' (.slice a2 (L.length + 1) c2)) (hR : Row w1 32 1 (.slice a2 (L.length + 1) c2) (L.length + 1) (u32b L ++ [u])) (hu : u = .int .u32 ((x.toNat : Nat) : Int)) :
    RwRel w0 b v (L ++ [x]) (w1.setCell ⟨b, 0, none⟩ (.slice a2 (L.length + 1) c2)) := by
  have hBa := hW.blk.upd hwa (by simp)
  have hfar := hT2.ne hBa.lt hW.far
  have hB1 := hBa.upd hU2 (by have := hW.far; simpa using this)
  refine ⟨_, ⟨hB1.set 0 (.slice a2 (L.length + 1) c2), ?_, hfar⟩, ?_, hLt.trans hU.size ?_⟩
  · rw [u32b_snoc, ← hu]
    have h := hR.setFar (a := ⟨b, 0, none⟩) (.slice a2 (L.length + 1) c2) hfar
    simpa using h
  · refine (((hU.then (hwa.mono (by simp))).trans hU2 (fun k hk => ?_))).setCell (.inl (by simp [wrFp])) _
    exact (hLt.fp k hk).imp (fun h => by simp [wrFp]; right; simpa using h) id
  · rcases hT2 with h | ⟨g, h1, h2⟩
    · exact .inl h
    · exact .inr ⟨g, h1, Nat.le_trans hwa.size h2⟩

set_option maxRecDepth 100000 in
set_option maxHeartbeats 1600000 in
theorem rbits_any (b X : Nat) (x k : Int) (K : Nat) (w : World) (v : Value) (L : List Bool) (hx : x = (X : Nat)) (hX : X < 4294967296) (hW : RwAt w b v L) (hL : L.length ≤ 1099511627776)
    (hK32 : K ≤ 32) (hK : Hid ((K : Int) = max 0 (min k 32))) :
    Calls Try.prog 12 #[.pointer (some ⟨b, 0, none⟩), .int .u32 x, .int .i64 k] w (RwPost w b v (L ++ low K X)) := by
  subst hx
  obtain ⟨i0, hi, hz0, hz1, hz2⟩ := info_parts infoU32
  go_enter Try.func12, Try.ntmps12
  go_wp2
  go_loopg [1, 6] K (fun g s1 s6 wr => ∃ i, i ≤ K ∧ g = K - i ∧ s6 = .int .i64 (i : Nat) ∧ s1 = .int .u32 ((X / 2 ^ i : Nat) : Int) ∧ RwRel w b v (L ++ low i X) wr)
  case atStart => exact ⟨0, by omega, rfl, rfl, by simp, v, by simpa [low] using hW, .refl _ _, .refl _ _⟩
  case round =>
    obtain ⟨i, hiK, rfl, rfl, rfl, v', hW', hU, hT⟩ := hrel
    have hub : X / 2 ^ i < 4294967296 := Nat.lt_of_le_of_lt (Nat.div_le_self _ _) hX
    have hd : ((X / 2 ^ i / 2 : Nat) : Int) = ((X / 2 ^ (i + 1) : Nat) : Int) := by rw [Nat.div_div_eq_div_mul, Nat.pow_succ]
    have HD := Lib.hid hd
    have hln : (L ++ low i X).length ≤ 1099511627776 + 32 := by rw [List.length_append, length_low]; omega
    have hsn := Lib.hid (show (L ++ low i X) ++ [X / 2 ^ i % 2 == 1] = L ++ low (i + 1) X by rw [low_snoc, List.append_assoc])
    have hbt := Lib.hid (toNat_bit (X / 2 ^ i))
    clear hd
    have hM0 := Lib.hid (fun h : i = K => show L ++ low i X = L ++ low K X by rw [h])
    generalize L ++ low i X = M at *
    generalize X / 2 ^ i = q at *
    have h0 := hW'.blk.cell 0 rfl
    by_cases hc : i < K
    · have hc1 : (i : Int) < k := by have := hK.out; omega
      have hc2 : (i : Int) < 32 := by omega
      go_wp2_with (at_builtin; refine wpList_app _ rfl _ _ 27 rfl 32 i0 _ 1 4 Try.underlying27 hi hz0 hz1 hz2 rfl (by omega) v' M.length _ rfl (hW'.row.alloc _) ⟨wr.heap.size, 0, none⟩ 1 1 [_] rfl rfl (World.news_of_block (cs := #[_]) (t := 32) (fr := (0, 0)) (heap_alloc_new _ _)) (by simp [Value.oneCell']) (by unfold maxLen; omega) (by omega) ?_)
      intro v2 w2 hR2 hU2 hT2
      obtain ⟨a2, c2, rfl⟩ := hR2.form
      have hB2 := (hW'.blk.alloc _).upd hU2 (by have := hW'.far; simpa using this)
      have k0 := hB2.cell 0 rfl
      have f0 := hB2.frz 0
      go_wp2
      go_roundg (K - (i + 1))
      case measure => omega
      case rel =>
        refine ⟨i + 1, by omega, rfl, by go_num, ?_, ?_⟩
        · rw [← HD.out]; simp
        · rw [← hsn.out]
          refine rw_close hW' hU hT ((Upd.refl _ _).alloc _) hU2 hT2 hR2 ?_
          rw [hbt.out]; simp
    · have hiK' : i = K := by omega
      have hc1 : ¬ ((i : Int) < k ∧ (i : Int) < 32) := by have := hK.out; omega
      by_cases hc2 : (i : Int) < k
      · have hc3 : ¬ ((i : Int) < 32) := by omega
        clear hc1
        go_wp2
        go_returns
        exact ⟨rfl, v', by rw [← hM0.out hiK']; exact hW', hU, hT⟩
      · clear hc1
        go_wp2
        go_returns
        exact ⟨rfl, v', by rw [← hM0.out hiK']; exact hW', hU, hT⟩
set_option maxRecDepth 100000 in
set_option maxHeartbeats 1600000 in
theorem ralign_any (b : Nat) (w : World) (v : Value) (L : List Bool) (hW : RwAt w b v L) (hL : L.length ≤ 1099511627776) :
    Calls Try.prog 14 #[.pointer (some ⟨b, 0, none⟩)] w (RwPost w b v (alignL L)) := by
  obtain ⟨i0, hi, hz0, hz1, hz2⟩ := info_parts infoU32
  go_enter Try.func14, Try.ntmps14
  go_wp2
  go_loopg [] ((8 - L.length % 8) % 8) (fun g wr => ∃ j, j ≤ (8 - L.length % 8) % 8 ∧ g = (8 - L.length % 8) % 8 - j ∧ RwRel w b v (L ++ List.replicate j false) wr)
  case atStart => exact ⟨0, by omega, rfl, v, by simpa using hW, .refl _ _, .refl _ _⟩
  case round =>
    obtain ⟨j, hj, rfl, v', hW', hU, hT⟩ := hrel
    have hln : (L ++ List.replicate j false).length ≤ 1099511627776 + 8 := by rw [List.length_append, List.length_replicate]; omega
    have hmod : Hid ((L ++ List.replicate j false).length = L.length + j) := Lib.hid (by rw [List.length_append, List.length_replicate])
    have hsn := Lib.hid (show (L ++ List.replicate j false) ++ [false] = L ++ List.replicate (j + 1) false by rw [List.append_assoc, List.replicate_succ'])
    have hfin := Lib.hid (fun h : j = (8 - L.length % 8) % 8 => show L ++ List.replicate j false = alignL L by rw [h]; rfl)
    generalize L ++ List.replicate j false = M at *
    obtain ⟨a1, c1, rfl⟩ := hW'.row.form
    have h0 := hW'.blk.cell 0 rfl
    by_cases hc : j < (8 - L.length % 8) % 8
    · have hc1 : ¬ ((M.length : Int) % 8 = 0) := by have := hmod.out; omega
      go_wp2_with (at_builtin; refine wpList_app _ rfl _ _ 27 rfl 32 i0 _ 1 4 Try.underlying27 hi hz0 hz1 hz2 rfl (by omega) _ M.length _ rfl (hW'.row.alloc _) ⟨wr.heap.size, 0, none⟩ 1 1 [_] rfl rfl (World.news_of_block (cs := #[_]) (t := 32) (fr := (0, 0)) (heap_alloc_new _ _)) (by simp [Value.oneCell']) (by unfold maxLen; omega) (by omega) ?_)
      intro v2 w2 hR2 hU2 hT2
      obtain ⟨a2, c2, rfl⟩ := hR2.form
      have hB2 := (hW'.blk.alloc _).upd hU2 (by have := hW'.far; simpa using this)
      have k0 := hB2.cell 0 rfl
      have f0 := hB2.frz 0
      go_wp2
      go_roundg ((8 - L.length % 8) % 8 - (j + 1))
      case measure => omega
      case rel =>
        refine ⟨j + 1, by omega, rfl, ?_⟩
        rw [← hsn.out]
        exact rw_close hW' hU hT ((Upd.refl _ _).alloc _) hU2 hT2 hR2 rfl
    · have hjK : j = (8 - L.length % 8) % 8 := by omega
      have hc1 : ((M.length : Int) % 8 = 0) := by have := hmod.out; omega
      have hc2 : ((M.length : Int) % 8 != 0) = false := by rw [hc1]; rfl
      clear hc1
      go_wp2
      go_returns
      exact ⟨rfl, _, by rw [← hfin.out hjK]; exact hW', hU, hT⟩

set_option maxRecDepth 100000 in
set_option maxHeartbeats 1600000 in
theorem rtext_any (b : Nat) (s : ByteArray) (w : World) (v : Value) (L : List Bool) (hW : RwAt w b v L) (hL : L.length ≤ 10995116277) (hs : s.size ≤ 10995116277) :
    Calls Try.prog 16 #[.pointer (some ⟨b, 0, none⟩), .string s] w (RwPost w b v (alignL L ++ textBits (bytesOf s))) := by
  have HC := Lib.hid (ralign_any b w v L hW (by omega))
  have hle : (alignL L).length ≤ 10995116290 := by rw [length_alignL]; omega
  generalize alignL L = L' at *
  go_enter Try.func16, Try.ntmps16
  go_wp2_with fail
  refine HC.out.mono ?_
  rintro e w1 ⟨rfl, v1, hW1, hU1, hT1⟩
  go_wp2_with fail
  go_loopg [4] s.size (fun g s4 wr => ∃ i, i ≤ s.size ∧ g = s.size - i ∧ s4 = .int .i64 (i : Nat) ∧ RwRel w b v (L' ++ textBits ((bytesOf s).take i)) wr)
  case atStart => exact ⟨0, by omega, rfl, rfl, v1, by simpa [textBits] using hW1, hU1, hT1⟩
  case round =>
    obtain ⟨i, hiK, rfl, rfl, v', hW', hU, hT⟩ := hrel
    clear HC hW1
    by_cases hc : i < s.size
    · have hib : i < (bytesOf s).length := by rw [length_bytesOf]; exact hc
      have hsn := Lib.hid (show (L' ++ textBits ((bytesOf s).take i)) ++ low 8 (bytesOf s)[i] = L' ++ textBits ((bytesOf s).take (i + 1)) by rw [List.append_assoc, ← textBits_take _ _ hib])
      have hbi := Lib.hid (bytesOf_u32 s i hc hib)
      have hln : (L' ++ textBits ((bytesOf s).take i)).length ≤ 1099511627776 := by
        rw [List.length_append, length_textBits, List.length_take, length_bytesOf]; omega
      have hlt := bytesOf_lt s (bytesOf s)[i] (List.getElem_mem hib)
      have hK : Hid (((8 : Nat) : Int) = max 0 (min 8 32)) := Lib.hid (by omega)
      generalize L' ++ textBits ((bytesOf s).take i) = M at *
      have hcz : (i : Int) < (s.size : Int) := by omega
      go_wp2_with fail
      refine (rbits_any b _ _ 8 8 _ v' M hbi.out (by omega) hW' hln (by omega) hK).mono ?_
      rintro e w2 ⟨rfl, v2, hW2, hU2, hT2⟩
      go_wp2
      go_roundg (s.size - (i + 1))
      case measure => omega
      case rel =>
        refine ⟨i + 1, by omega, rfl, by go_num, v2, by rw [← hsn.out]; exact hW2, hU.trans hU2 (fun k hk => ?_), hT.trans hU.size hT2⟩
        simp only [wrFp, List.mem_cons] at hk ⊢
        rcases hk with hk | hk
        · exact .inl (.inl hk)
        · exact (hT.fp k hk).imp .inr id
    · have hcz : ¬ ((i : Int) < (s.size : Int)) := by omega
      go_wp2
      go_returns
      have hi2 : i = (bytesOf s).length := by rw [length_bytesOf]; omega
      refine ⟨rfl, v', ?_, hU, hT⟩
      rw [hi2, List.take_length] at hW'
      exact hW'
end Go.Proofs.Ytcddlnmfdjfjfaa

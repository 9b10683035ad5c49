/- Package bitio: plain: what was written is read as it was. -/
import Derived.Test.YtcddlnmfdjfjfaaBack
import Derived.Test.YtcddlnmfdjfjfaaRdB
namespace Go.Proofs.Ytcddlnmfdjfjfaa
open Go.RowKit

def clampN (n : Int) : Nat := (max 0 (min n 32)).toNat
def cutT (s : ByteArray) : ByteArray := s.extract 0 (min s.size 50)
def stepBits (L : List Bool) (s : Nat × Nat × Int × ByteArray) : List Bool := if s.1 % 3 = 2 then alignL L ++ textBits (bytesOf (cutT s.2.2.2)) else L ++ low (clampN s.2.2.1) s.2.1
def bitsUpto (st : Nat → Nat × Nat × Int × ByteArray) : Nat → List Bool
  | 0 => []
  | k + 1 => stepBits (bitsUpto st k) (st k)
theorem clampN_le (n : Int) : clampN n ≤ 32 := by unfold clampN; omega
theorem cutT_size (s : ByteArray) : (cutT s).size ≤ 50 := by unfold cutT; rw [ByteArray.size_extract]; omega
theorem stepBits_pre (L : List Bool) (s : Nat × Nat × Int × ByteArray) : L <+: stepBits L s := by
  unfold stepBits
  split
  · exact ⟨List.replicate ((8 - L.length % 8) % 8) false ++ textBits (bytesOf (cutT s.2.2.2)), by rw [alignL, List.append_assoc]⟩
  · exact ⟨_, rfl⟩
theorem bitsUpto_pre (st : Nat → Nat × Nat × Int × ByteArray) (k : Nat) : ∀ n, k ≤ n → bitsUpto st k <+: bitsUpto st n
  | 0, h => by obtain rfl : k = 0 := by omega
               exact List.prefix_refl _
  | n + 1, h => by
    by_cases e : k = n + 1
    · subst e; exact List.prefix_refl _
    · exact (bitsUpto_pre st k n (by omega)).trans (stepBits_pre _ _)
theorem bitsUpto_len (st : Nat → Nat × Nat × Int × ByteArray) : ∀ k, (bitsUpto st k).length ≤ 500 * k
  | 0 => by simp [bitsUpto]
  | k + 1 => by
    have ih := bitsUpto_len st k
    show (stepBits (bitsUpto st k) (st k)).length ≤ _
    unfold stepBits
    split
    · rw [List.length_append, length_alignL, length_textBits, length_bytesOf]
      have := cutT_size (st k).2.2.2
      omega
    · rw [List.length_append, length_low]
      have := clampN_le (st k).2.2.1
      omega
/-- A number's bits are read. -/
theorem read_bits {A F : List Bool} {K X : Nat} (h : A ++ low K X <+: F) (hK : K ≤ 32) : rdBad (strOf (pack F)) A.length false (K : Int) = false ∧ rdNum (strOf (pack F)) A.length false (K : Int) = X % 2 ^ K ∧ rdTo (strOf (pack F)) A.length false (K : Int) = (A ++ low K X).length := by
  obtain ⟨B, hB⟩ := h
  have hl : A.length + K ≤ F.length := by rw [← hB]; simp [length_low]
  have hbad : rdBad (strOf (pack F)) A.length false (K : Int) = false := by
    unfold rdBad
    rw [size_pack, decide_eq_false (by omega), decide_eq_false (by omega), decide_eq_false (by omega)]
    rfl
  refine ⟨hbad, ?_, ?_⟩
  · unfold rdNum
    rw [hbad, if_neg (by simp), Int.toNat_natCast]
    have hm := rdVal_mid A (low K X) B K 0 (by rw [length_low]; omega)
    rw [Nat.add_zero, List.drop_zero, List.take_of_length_le (by rw [length_low]; omega), val_low, hB] at hm
    exact hm
  · unfold rdTo
    rw [hbad, if_neg (by simp), Int.toNat_natCast, List.length_append, length_low]
/-- A text is read. -/
theorem read_text {A F : List Bool} {T : ByteArray} (h : alignL A ++ textBits (bytesOf T) <+: F) : txBad (strOf (pack F)) A.length false (T.size : Int) = false ∧ txStr (strOf (pack F)) A.length false (T.size : Int) = T ∧ txTo (strOf (pack F)) A.length false (T.size : Int) = (alignL A ++ textBits (bytesOf T)).length := by
  obtain ⟨B, hB⟩ := h
  have hal := length_alignL A
  have hlT : (bytesOf T).length = T.size := length_bytesOf T
  have hl : 8 * ((A.length + 7) / 8) + 8 * T.size ≤ F.length := by rw [← hB, List.length_append, List.length_append, hal, length_textBits, hlT]; omega
  have hbad : txBad (strOf (pack F)) A.length false (T.size : Int) = false := by
    unfold txBad
    rw [size_pack, decide_eq_false (by omega), decide_eq_false (by omega)]
    rfl
  refine ⟨hbad, ?_, ?_⟩
  · unfold txStr
    rw [hbad, if_neg (by simp), Int.toNat_natCast]
    obtain ⟨q, hq⟩ : ∃ q, (A.length + 7) / 8 = q := ⟨_, rfl⟩
    rw [hq] at hal hl ⊢
    have h1 : outs F (q + T.size) = outs (alignL A) q ++ bytesOf T := by
      rw [← hB, outs_append _ _ _ (by rw [List.length_append, hal, length_textBits, hlT]; omega), ← hlT]
      exact outs_text (alignL A) q hal (bytesOf T) (fun x hx => by
        unfold bytesOf at hx; obtain ⟨c, _, rfl⟩ := List.mem_map.1 hx; exact c.toNat_lt)
    have h2 : pack F = outs F (q + T.size) ++ (pack F).drop (q + T.size) := by
      conv => lhs; rw [← List.take_append_drop (q + T.size) (pack F)]
      congr 1
      unfold pack outs
      rw [← List.map_take, List.take_range, Nat.min_eq_left (by omega)]
    have h3 : pack F = outs (alignL A) q ++ (bytesOf T ++ (pack F).drop (q + T.size)) := by rw [← List.append_assoc, ← h1]; exact h2
    have ho : (outs (alignL A) q).length = q := length_outs _ _
    apply ByteArray.ext
    apply Array.ext'
    rw [ByteArray.data_extract, Array.toList_extract]
    show List.extract (strOf (pack F)).data.toList q (q + T.size) = T.data.toList
    have h4 : (strOf (pack F)).data.toList = (pack F).map UInt8.ofNat := by simp [strOf]
    rw [h4, h3, List.extract_eq_take_drop, List.map_append, List.drop_left' (by rw [List.length_map, ho]), List.map_append, List.take_left' (by rw [List.length_map, hlT]; omega)]
    have h5 := congrArg (fun s : ByteArray => s.data.toList) (strOf_bytesOf T)
    simpa [strOf] using h5
  · unfold txTo
    rw [hbad, if_neg (by simp), Int.toNat_natCast, List.length_append, hal, length_textBits, hlT]
theorem pack_sbits (s : ByteArray) : strOf (pack (sbits s)) = s := by
  have h : pack (sbits s) = bytesOf s := by
    unfold pack
    rw [length_sbits, show (8 * s.size + 7) / 8 = 0 + (bytesOf s).length by rw [length_bytesOf]; omega]
    have := outs_text [] 0 rfl (bytesOf s) (fun x hx => by
        unfold bytesOf at hx; obtain ⟨c, _, rfl⟩ := List.mem_map.1 hx; exact c.toNat_lt)
    simpa [sbits, outs] using this
  rw [h, strOf_bytesOf]
end Go.Proofs.Ytcddlnmfdjfjfaa

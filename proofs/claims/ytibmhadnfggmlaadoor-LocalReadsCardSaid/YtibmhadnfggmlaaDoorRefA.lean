/- Package swingleref19: At; what Read tells; laws of records in memory. -/
import Derived.Test.YtibmhadnfggmlaaDoorFldW
import Derived.Test.YtibmhadnfggmlaaDoorRecW
import Derived.Test.YtibmhadnfggmlaaDoorLocL
namespace Go.Proofs.YtibmhadnfggmlaaDoor
open Go.RowKit
set_option linter.unusedVariables false

theorem leG_inj {a b : List Nat} (ha : ∀ x ∈ a, x < 256) (hb : ∀ x ∈ b, x < 256) (hl : a.length = b.length) (h : leG a = leG b) : a = b := by
  rw [← leP_leG a ha, ← leP_leG b hb, h, hl]
theorem magic4 (x : ByteArray) (h : 4 ≤ x.size) (L : List UInt8) (m : Nat) (hL : L.length = 4) (hm : leG (L.map UInt8.toNat) = m) : ((x.extract 0 4).toList == L) = decide (gN x 0 4 = m) := by
  rw [toList_bytes, Bool.eq_iff_iff, decide_eq_true_eq, decide_eq_true_eq, bytesOf_extract]
  unfold gN
  rw [← hm, Nat.sub_zero]
  refine ⟨fun e => by rw [e], fun e => leG_inj (fun y hy => bytesOf_lt x y (List.mem_of_mem_drop (List.mem_of_mem_take hy))) (fun y hy => ?_) (by rw [List.length_take, List.length_drop, length_bytesOf, List.length_map, hL]; omega) e⟩
  obtain ⟨z, _, rfl⟩ := List.mem_map.1 hy
  exact z.toNat_lt
theorem gN_extract (s : ByteArray) (i k : Nat) (h : i + k ≤ s.size) : getV (s.extract i s.size) k = .tuple #[.int .u64 (gN s i k : Nat), .bool true] := by
  unfold getV gN
  have e : ((bytesOf s).drop i).take (s.size - i) = (bytesOf s).drop i := List.take_of_length_le (by rw [List.length_drop, length_bytesOf]; omega)
  rw [if_pos (by rw [ByteArray.size_extract]; omega), bytesOf_extract, e]
set_option maxRecDepth 100000 in
theorem rAt_any (s : ByteArray) (i k : Nat) (w : World) (h : i + k ≤ s.size) (hs : s.size ≤ 1000000) (hk : k ≤ 4) :
    Calls Tryd.prog 93 #[.string s, .int .i64 (i : Nat), .int .i64 (k : Nat)] w fun e w' => e = .returned (.int .i64 (gN s i k : Nat)) ∧ Upd [] w w' := by
  have HG := Lib.hid (fun w => rget_any (s.extract i s.size) k w (by rw [ByteArray.size_extract]; omega) (by omega))
  rw [gN_extract s i k h] at HG
  have hlt : gN s i k < 4294967296 := Nat.lt_of_lt_of_le (gN_lt s i k) (Nat.le_trans (Nat.pow_le_pow_right (by omega) hk) (by decide))
  generalize gN s i k = v at *
  have h1 : (i : Int) ≤ (s.size : Int) := by omega
  go_enter Tryd.func93, Tryd.ntmps93
  go_wp2_with fail
  refine (HG.out _).mono ?_
  rintro e w1 ⟨rfl, hU⟩
  go_wp2
  go_ret
  exact ⟨rfl, hU⟩
/-- What Read tells. -/
def readV (x : RecD × Nat × Bool × Nat) : Value := .tuple #[x.1.v, .int .i64 (x.2.1 : Nat), .bool x.2.2.1, .int .i64 (x.2.2.2 : Nat)]
def noneCells : List Value := [.string .empty, .int .i64 0, .int .u32 0, .int .i64 0, .int .i64 0, .int .i64 0, .int .i64 0, .int .u32 0, .int .i64 0]
theorem readV_none (e : Nat) : readV (noneR, 0, false, e) = .tuple #[.agg noneCells.toArray, .int .i64 0, .bool false, .int .i64 (e : Nat)] := rfl
theorem pathP_size {l : List Nat} (h : (pathP l).2.2 = true) : (pathP l).1.length ≤ 200 := by
  unfold pathP at h ⊢
  repeat' split
  · rename_i h1; exact rightP_len h1
  · simp
  · rename_i h1
    rcases h1 with h1 | h1
    · exact rightP_len h1
    · rw [h1]; decide
  · simp
theorem results_rd4 {fn : Func} {p t u v : Tmp} (h : fn.results = #[.cell p 51, .tmp t, .tmp u, .tmp v]) (tmps : Array Value) (w : World) (g : Nat) (c0 c1 c2 c3 c4 c5 c6 c7 c8 : Value) (hp : tmps.getD p undef = .pointer (some ⟨g, 0, none⟩)) (hB : Blk w g [c0, c1, c2, c3, c4, c5, c6, c7, c8] 51) :
    (results fn tmps).run Tryd.prog w = .ok (.tuple #[.agg #[c0, c1, c2, c3, c4, c5, c6, c7, c8], tmps.getD t undef, tmps.getD u undef, tmps.getD v undef]) w := by
  have h0 := hB.cell 0 rfl
  have h1 := hB.cell 1 rfl
  have h2 := hB.cell 2 rfl
  have h3 := hB.cell 3 rfl
  have h4 := hB.cell 4 rfl
  have h5 := hB.cell 5 rfl
  have h6 := hB.cell 6 rfl
  have h7 := hB.cell 7 rfl
  have h8 := hB.cell 8 rfl
  have hp2 : tmps[p]?.getD undef = .pointer (some ⟨g, 0, none⟩) := by rw [← hp]; simp
  simp [results, h, go_sem, hp2, h0, h1, h2, h3, h4, h5, h6, h7, h8]
theorem Blk.set9 {w : World} {b : Nat} {a0 a1 a2 a3 a4 a5 a6 a7 a8 : Value} {t : TypeId} (h : Blk w b [a0, a1, a2, a3, a4, a5, a6, a7, a8] t) (v0 v1 v2 v3 v4 v5 v6 v7 v8 : Value) :
    Blk (((((((((w.setCell ⟨b, 0, none⟩ v0).setCell ⟨b, 1, none⟩ v1).setCell ⟨b, 2, none⟩ v2).setCell ⟨b, 3, none⟩ v3).setCell ⟨b, 4, none⟩ v4).setCell ⟨b, 5, none⟩ v5).setCell ⟨b, 6, none⟩ v6).setCell ⟨b, 7, none⟩ v7).setCell ⟨b, 8, none⟩ v8) b [v0, v1, v2, v3, v4, v5, v6, v7, v8] t :=
  ((((((((h.set 0 v0).set 1 v1).set 2 v2).set 3 v3).set 4 v4).set 5 v5).set 6 v6).set 7 v7).set 8 v8
theorem Upd.set9 {fp : List Nat} {w0 w : World} {b : Nat} (h : Upd fp w0 w) (hb : b ∈ fp ∨ w0.heap.size ≤ b) (v0 v1 v2 v3 v4 v5 v6 v7 v8 : Value) :
    Upd fp w0 (((((((((w.setCell ⟨b, 0, none⟩ v0).setCell ⟨b, 1, none⟩ v1).setCell ⟨b, 2, none⟩ v2).setCell ⟨b, 3, none⟩ v3).setCell ⟨b, 4, none⟩ v4).setCell ⟨b, 5, none⟩ v5).setCell ⟨b, 6, none⟩ v6).setCell ⟨b, 7, none⟩ v7).setCell ⟨b, 8, none⟩ v8) :=
  ((((((((h.setCell hb v0).setCell hb v1).setCell hb v2).setCell hb v3).setCell hb v4).setCell hb v5).setCell hb v6).setCell hb v7).setCell hb v8
end Go.Proofs.YtibmhadnfggmlaaDoor

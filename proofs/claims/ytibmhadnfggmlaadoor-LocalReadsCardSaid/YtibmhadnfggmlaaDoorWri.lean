/- Package field: Writer: walks. -/
import Derived.Test.YtibmhadnfggmlaaDoorBld
import Derived.Test.YtibmhadnfggmlaaDoorFldW
namespace Go.Proofs.YtibmhadnfggmlaaDoor
open Go.RowKit
set_option linter.unusedVariables false

theorem isWr : IsBldT 99 := ⟨by kernel_rfl, by decide⟩
abbrev Wr (B b : Nat) (l : List Nat) (w : World) : Prop := Bld 99 B b l w
theorem at_upd {T : TypeId} {B b : Nat} {p : Value} {bs : List Value} {w w' : World} (h : Lib.BuilderAt T 5 B b p bs w) (hu : Upd [] w w') : Lib.BuilderAt T 5 B b p bs w' := by
  have hlt := h.lt
  obtain ⟨hB, v, hbk, hown, hne⟩ := h
  refine ⟨hB, v, (hu.block b hlt (by simp)).trans hbk, ⟨hown.1, ?_⟩, hne⟩
  rcases hown.2 with ⟨hv, hz⟩ | ⟨g, cap, cur, hv, hBg, hg, r⟩
  · exact .inl ⟨hv, hz⟩
  · exact .inr ⟨g, cap, cur, hv, hBg, (hu.block g (Array.getElem?_eq_some_iff.1 hg).1 (by simp)).trans hg, r⟩
theorem Bld.upd {T : TypeId} {B b : Nat} {l : List Nat} {w w' : World} (h : Bld T B b l w) (hu : Upd [] w w') : Bld T B b l w' := h.elim (fun x => .inl (at_upd x hu)) (fun x => .inr (at_upd x hu))
theorem Upd.belowB {B : Nat} {w w' : World} (h : Upd [] w w') (hB : B ≤ w.heap.size) : Below B w w' := h.below' hB (by simp)
set_option maxRecDepth 100000 in
theorem wText_any (B b g : Nat) (l : List Nat) (s : ByteArray) (w : World) (h : Wr B b l w) (hg : w.cell? ⟨g, 0, none⟩ = some (.string s)) (hlen : l.length + s.size ≤ 1000000000) (hBw : B ≤ w.heap.size) :
    Calls Tryd.prog 84 #[.pointer (some ⟨b, 0, none⟩), .slice (some ⟨g, 0, none⟩) 1 1] w fun e w' => e = .returned (.pointer (some ⟨b, 0, none⟩)) ∧ Wr B b (l ++ bytesOf s) w' ∧ Below B w w' := by
  have HW := Lib.hid (writeString_any isWr B b l s w h hlen hBw)
  clear h
  go_enter Tryd.func84, Tryd.ntmps84
  go_wp2
  go_loopg [11] 1 (fun gg s11 wr => ∃ i, gg = 1 - i ∧ s11 = .int .i64 (i : Nat) ∧ ((i = 0 ∧ wr = w) ∨ (i = 1 ∧ Hid (Wr B b (l ++ bytesOf s) wr ∧ Below B w wr))))
  case atStart => exact ⟨0, rfl, rfl, .inl ⟨rfl, rfl⟩⟩
  case round =>
    obtain ⟨i, rfl, rfl, ⟨rfl, rfl⟩ | ⟨rfl, HF⟩⟩ := hrel
    · go_wp2_with fail
      refine HW.out.mono ?_
      rintro e w1 ⟨rfl, hF⟩
      go_wp2
      go_roundg (1 - 1)
      · exact ⟨1, rfl, rfl, .inr ⟨rfl, Lib.hid hF⟩⟩
      · omega
    · go_wp2
      go_ret
      exact ⟨rfl, HF.out⟩
set_option maxRecDepth 100000 in
theorem wNum_any (B b n k : Nat) (l : List Nat) (w : World) (h : Wr B b l w) (hn : n < 18446744073709551616) (hk : k ≤ 8) (hlen : l.length ≤ 100000000) (hBw : B ≤ w.heap.size) :
    Calls Tryd.prog 82 #[.pointer (some ⟨b, 0, none⟩), .int .u64 (n : Nat), .int .i64 (k : Nat)] w fun e w' => e = .returned (.pointer (some ⟨b, 0, none⟩)) ∧ Wr B b (l ++ leP n k) w' ∧ Below B w w' := by
  have HP := Lib.hid (put_any n k w hn hk)
  go_enter Tryd.func82, Tryd.ntmps82
  go_wp2_with fail
  refine HP.out.mono ?_
  rintro e w1 ⟨rfl, hU⟩
  go_wp2_with fail
  have hU2 := hU.alloc (.cells #[.string (strOf (leP n k))] 9)
  have hsz : (strOf (leP n k)).size = k := by rw [size_strOf, leP_len]
  have hb : bytesOf (strOf (leP n k)) = leP n k := bytesOf_strOf _ (leP_lt k n)
  refine (wText_any B b w1.heap.size l _ _ (h.upd hU2) ((Blk.new w1 [.string (strOf (leP n k))] 9).cell 0 rfl) (by rw [hsz]; omega) (by have := hU2.size; omega)).mono ?_
  rintro e w2 ⟨rfl, hW, hL⟩
  rw [hb] at hW
  go_wp2
  go_ret
  exact ⟨rfl, hW, (hU2.belowB hBw).trans hL⟩
end Go.Proofs.YtibmhadnfggmlaaDoor

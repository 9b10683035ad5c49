/- The walks of package huff: New (a Decoder). -/
import Derived.Test.YtcddlnmfdjfjfaaHuffV
namespace Go.Proofs.Ytcddlnmfdjfjfaa
open Go.RowKit
set_option linter.unusedVariables false

theorem infoInt : (Try.prog.info? 3).map (fun i => (i.zero, i.size, i.bytes)) = some (some (.int .i64 0), 1, 8) := by kernel_rfl

/-- A Decoder at block b of lengths n; v: its symbols. -/
structure DcAt (w : World) (b : Nat) (v : Value) (n : List Nat) : Prop where
  blk : Blk w b (i64s (cl n) ++ [v]) 92
  row : Row w 3 1 v (symsTo n 16).length (i64s (symsTo n 16))
  far : v.ownBlock ≠ some b
theorem DcAt.upd {w w' : World} {b : Nat} {v : Value} {n : List Nat} {fp : List Nat} (h : DcAt w b v n) (hu : Upd fp w w') (hb : b ∉ fp) (hv : ∀ k, v.ownBlock = some k → k ∉ fp) : DcAt w' b v n :=
  ⟨h.blk.upd hu hb, h.row.upd hu hv, h.far⟩
def NewPost (w : World) (l : List Int) (e : Ending) (w' : World) : Prop :=
  Upd [] w w' ∧ (((kindOf l = 3 ∨ kindOf l = 0) ∧ e = .returned (.tuple #[.pointer none, .bool false])) ∨
    (kindOf l ≠ 3 ∧ kindOf l ≠ 0 ∧ ∃ b v, e = .returned (.tuple #[.pointer (some ⟨b, 0, none⟩), .bool true]) ∧ DcAt w' b v (nats l) ∧ w.heap.size ≤ b ∧ ∀ k, v.ownBlock = some k → w.heap.size ≤ k))
def NewRel (w : World) (b : Nat) (n : List Nat) (k i : Nat) (wr : World) : Prop :=
  Upd [] w wr ∧ ∃ v, Blk wr b (i64s (cl n) ++ [v]) 92 ∧ Row wr 3 1 v ((symsTo n k).length + (idx n k i).length) (i64s (symsTo n k ++ idx n k i)) ∧ v.ownBlock ≠ some b ∧ ∀ k, v.ownBlock = some k → w.heap.size ≤ k

set_option maxRecDepth 100000 in
set_option maxHeartbeats 3200000 in
theorem new_any (a : Option Addr) (len cap : Nat) (l : List Int) (w : World) (hlen : len ≤ 9223372036854775807) (hI : IntsIn w a len l) :
    Calls Try.prog 33 #[.slice a len cap] w (NewPost w l) := by
  have hll := hI.len
  have HI := Lib.hid hI
  clear hI
  subst hll
  have HK := Lib.hid (kind_any a l.length cap l w hlen HI.out)
  have HC := Lib.hid (fun w1 (hU : Upd [] w w1) => count_any a l.length cap l w1 hlen (HI.out.pure hU))
  obtain ⟨i0, hi0, hz0, hz1, hz2⟩ := info_parts infoInt
  by_cases hk3 : kindOf l = 3
  · have H3 := Lib.hid hk3
    rw [hk3] at HK
    clear hk3
    go_enter Try.func33, Try.ntmps33
    go_wp2_with fail
    refine HK.out.mono ?_
    rintro e w1 ⟨rfl, hU1⟩
    go_wp2
    go_returns
    exact ⟨hU1, .inl ⟨.inl H3.out, rfl⟩⟩
  · by_cases hk0 : kindOf l = 0
    · have H0 := Lib.hid hk0
      rw [hk0] at HK
      clear hk0 hk3
      go_enter Try.func33, Try.ntmps33
      go_wp2_with fail
      refine HK.out.mono ?_
      rintro e w1 ⟨rfl, hU1⟩
      go_wp2
      go_returns
      exact ⟨hU1, .inl ⟨.inr H0.out, rfl⟩⟩
    · obtain ⟨hok, hps⟩ := kindOf_ok hk3
      have hkb : ((kindOf l : Nat) : Int) ≠ 3 := by omega
      have hkb0 : ((kindOf l : Nat) : Int) ≠ 0 := by omega
      have hkf : (((kindOf l : Nat) : Int) == 3) = false := by simpa using hkb
      have hkf0 : (((kindOf l : Nat) : Int) == 0) = false := by simpa using hkb0
      have H3 := Lib.hid hk3
      have H0 := Lib.hid hk0
      have HO := Lib.hid hok
      generalize kindOf l = kk at HK hkb hkb0 hkf hkf0
      clear hk3 hk0
      have hnl := length_nats l
      have h300 := (okLens_spec HO.out).1
      go_enter Try.func33, Try.ntmps33
      go_wp2_with fail
      refine HK.out.mono ?_
      rintro e w1 ⟨rfl, hU1⟩
      go_wp2_with fail
      refine (HC.out _ (hU1.alloc _)).mono ?_
      rintro e w2 ⟨hU2, ⟨_, rfl⟩ | ⟨hno, _⟩⟩
      case inr => rw [hok] at hno; cases hno
      have hlen0 : (i64s (cl (nats l))).length = 16 := by rw [length_i64s, length_cl]
      clear hok
      have hBn := (Blk.new w1 (i64s (List.replicate 16 0) ++ [.slice none 0 0]) 92).upd hU2 (by simp)
      go_wp2_with (refine wpList_storePre rfl 83 _ _ rfl w1.heap.size rfl _ rfl 92 (i64s (List.replicate 16 0)) [.slice none 0 0] hBn (by kernel_rfl) hlen0 (i64s_one _) ?_; intro w3 hB3 hU3)
      have hb : w.heap.size ≤ w1.heap.size := hU1.size
      have hU13 : Upd [] w w3 := ((hU1.alloc _).then hU2).trans hU3 (fun k hk => by simp at hk; right; omega)
      clear hBn hU1 hU2 hU3
      generalize hg : w1.heap.size = b at *
      clear hg
      have hRel0 : NewRel w b (nats l) 1 0 w3 := ⟨hU13, .slice none 0 0, hB3, by rw [symsTo_1]; exact Row.nil _ _ _, by simp [Value.ownBlock], by simp [Value.ownBlock]⟩
      clear hB3 hU13
      go_loopg [6] 15 (fun g s6 wr => ∃ k, k ≤ 15 ∧ g = 15 - k ∧ s6 = .int .i64 ((k + 1 : Nat) : Int) ∧ NewRel w b (nats l) (k + 1) 0 wr)
      case atStart => exact ⟨0, by omega, rfl, rfl, hRel0⟩
      case round =>
        obtain ⟨k, hk, rfl, rfl, hR⟩ := hrel
        clear hRel0
        by_cases hc : k < 15
        · have hcz : (k : Int) + 1 ≤ 15 := by omega
          go_wp2
          go_loopg [33] l.length (fun g s33 wx => ∃ i, i ≤ l.length ∧ g = l.length - i ∧ s33 = .int .i64 (i : Nat) ∧ NewRel w b (nats l) (k + 1) i wx)
          case atStart => exact ⟨0, by omega, rfl, rfl, hR⟩
          case round =>
            obtain ⟨i, hin, rfl, rfl, hUx, v, hB, hRow, hne, hnew⟩ := hrel
            clear hR
            by_cases hc2 : i < l.length
            · have hcz2 : (i : Int) < (l.length : Int) := by omega
              obtain ⟨ba, off, rfl, c0, r1, r2⟩ := (HI.out.pure hUx).cell i hc2
              have hkk := (okLens_spec HO.out).2 _ (List.getElem_mem hc2)
              obtain ⟨x, hx⟩ : ∃ x : Nat, l[i] = (x : Int) := ⟨l[i].toNat, by omega⟩
              have hin' : i < (nats l).length := by omega
              have hnd : (nats l).getD i 0 = x := by rw [List.getD, List.getElem?_eq_getElem hin']; simp [nats, hx]
              rw [hx] at c0 hkk
              have hs := idx_succ (nats l) (k + 1) i
              rw [hnd] at hs
              clear hx r1 r2 hnd
              by_cases hxk : x = k + 1
              · have hxz : (x : Int) = (k : Int) + 1 := by omega
                rw [if_pos hxk] at hs
                have H2 := Lib.hid hs
                clear hs hxk
                have hl1 := length_symsTo_le (nats l) (k + 1)
                have hl2 := length_idx_le (nats l) (k + 1) i
                have hl3 : (k + 1) * (nats l).length ≤ 15 * 300 := Nat.mul_le_mul (by omega) (by omega)
                obtain ⟨va, vc, rfl⟩ := hRow.form
                have d1 := hB.cell 16 (v := .slice va ((symsTo (nats l) (k + 1)).length + (idx (nats l) (k + 1) i).length) vc) (by rw [List.getElem?_append_right (by omega), hlen0]; rfl)
                have f1 := hB.frz 16
                have hlt := Row.lt hRow
                have hbl := hB.lt
                obtain ⟨XS, hXS⟩ : ∃ XS, symsTo (nats l) (k + 1) ++ idx (nats l) (k + 1) i = XS := ⟨_, rfl⟩
                have hXL : (symsTo (nats l) (k + 1)).length + (idx (nats l) (k + 1) i).length = XS.length := by rw [← hXS, List.length_append]
                have hXb : XS.length ≤ 5000 := by omega
                rw [hXL] at hRow hlt d1 hB hne hnew
                rw [hXS] at hRow
                have HXS := Lib.hid hXS
                have HXL := Lib.hid hXL
                clear hXS hXL hl1 hl2 hl3
                go_wp2_with (at_builtin; refine wpList_app _ rfl _ _ 41 rfl 3 i0 _ 1 8 Try.underlying41 hi0 hz0 hz1 hz2 rfl (by omega) _ XS.length _ rfl (hRow.alloc _) ⟨wr.heap.size, 0, none⟩ 1 1 [_] rfl rfl (World.news_of_block (cs := #[_]) (t := 3) (fr := (0, 0)) (heap_alloc_new _ _)) (by simp [Value.oneCell']) (by unfold maxLen; omega) (by omega) ?_)
                intro v2 w4 hR4 hU4 hT4
                obtain ⟨a2, c2, rfl⟩ := hR4.form
                have hfar : b ∉ (Value.slice va XS.length vc).ownBlock.toList := by simpa [eq_comm] using hne
                have hB4 := (hB.alloc _).upd hU4 hfar
                have k4 := hB4.cell 16 (v := .slice va XS.length vc) (by rw [List.getElem?_append_right (by omega), hlen0]; rfl)
                have f4 := hB4.frz 16
                go_wp2
                go_roundg (l.length - (i + 1))
                case measure => omega
                case rel =>
                  refine ⟨i + 1, by omega, rfl, by go_num, ((hUx.alloc _).trans hU4 ?_).setCell (.inr hb) _, .slice a2 (XS.length + 1) c2, ?_, ?_, ?_, ?_⟩
                  · intro k hk; right; exact hnew k (by simpa using hk)
                  · have h := hB4.set 16 (.slice a2 (XS.length + 1) c2)
                    rw [List.set_append_right _ _ (by omega), hlen0] at h
                    exact h
                  · rw [H2.out, ← List.append_assoc, HXS.out, List.length_append, ← Nat.add_assoc, HXL.out]
                    have h := hR4.setFar (a := ⟨b, 16, none⟩) (.slice a2 (XS.length + 1) c2) (hT4.ne (by simp; omega) hne)
                    rw [show i64s (XS ++ [i]) = i64s XS ++ [.int .i64 (i : Int)] by simp [i64s]]
                    exact h
                  · exact hT4.ne (by simp; omega) hne
                  · intro k hk
                    rcases hT4 with h | ⟨g, h1, h2⟩
                    · exact hnew k (by rw [← h]; exact hk)
                    · rw [h1] at hk; simp at hk h2; have := hUx.size; omega
              · have hxz : ¬ (x : Int) = (k : Int) + 1 := by omega
                rw [if_neg hxk, List.append_nil] at hs
                have H2 := Lib.hid hs
                clear hs hxk
                go_wp2
                go_roundg (l.length - (i + 1))
                case measure => omega
                case rel => exact ⟨i + 1, by omega, rfl, by go_num, hUx, v, hB, by rw [H2.out]; exact hRow, hne, hnew⟩
            · have hcz2 : ¬ (i : Int) < (l.length : Int) := by omega
              have hi : i = (nats l).length := by omega
              have H2 := Lib.hid (symsTo_succ (nats l) (k + 1) (by omega))
              have H3 := Lib.hid (show (idx (nats l) (k + 1 + 1) 0) = [] by simp [idx])
              have hRow2 : Row wr 3 1 v ((symsTo (nats l) (k + 1 + 1)).length + (idx (nats l) (k + 1 + 1) 0).length) (i64s (symsTo (nats l) (k + 1 + 1) ++ idx (nats l) (k + 1 + 1) 0)) := by
                rw [H3.out, H2.out, List.append_nil, List.length_nil, Nat.add_zero, List.length_append, ← hi]; exact hRow
              clear hi hRow
              go_wp2
              go_roundg (15 - (k + 1))
              case measure => omega
              case rel => exact ⟨k + 1, by omega, rfl, by go_num, hUx, v, hB, hRow2, hne, hnew⟩
        · have hk15 : k = 15 := by omega
          have hcz : ¬ (k : Int) + 1 ≤ 15 := by omega
          subst hk15
          obtain ⟨hUx, v, hB, hRow, hne, hnew⟩ := hR
          have H3' := Lib.hid (show (idx (nats l) (15 + 1) 0) = [] by simp [idx])
          rw [H3'.out, List.append_nil, List.length_nil, Nat.add_zero] at hRow
          go_wp2
          go_returns
          exact ⟨hUx, .inr ⟨H3.out, H0.out, b, v, rfl, ⟨hB, hRow, hne⟩, hb, hnew⟩⟩
end Go.Proofs.Ytcddlnmfdjfjfaa

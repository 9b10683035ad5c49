/- Package strings: SplitSeq at "/": the iterator's contract. -/
import Derived.Test.YtigjingielnaoaaDoorQAI
namespace Go.Proofs.YtigjingielnaoaaDoor
set_option linter.unusedVariables false
set_option linter.unusedSimpArgs false
set_option linter.unusedSectionVars false
open Go.RowKit Go.Shelf
attribute [local go_sem] Oper.semAt_some
set_option linter.unusedVariables false

/-- The parts of a path, as strings. -/
def partsS (s : ByteArray) : List ByteArray := (splitP (bytesOf s)).map strOf
theorem partsS_first (s : ByteArray) (h : firstS (bytesOf s) < s.size) : partsS s = s.extract 0 (firstS (bytesOf s)) :: partsS (s.extract (firstS (bytesOf s) + 1) s.size) := by
  unfold partsS
  rw [splitP_first _ (by rw [length_bytesOf]; exact h), List.map_cons, ← strOf_take, bytesOf_extract, List.take_of_length_le (by rw [List.length_drop, length_bytesOf]; omega)]
theorem partsS_last (s : ByteArray) (h : ¬ firstS (bytesOf s) < s.size) : partsS s = [s] := by
  unfold partsS
  rw [splitP_last _ (by rw [length_bytesOf]; exact h), List.map_cons, strOf_bytesOf]; rfl
/-- A string, as strings go. -/
abbrev Shs := { x : ByteArray // x.size ≤ 9223372036854775807 }
/-- SplitSeq's iterator, closed over its three boxes. -/
theorem splitSeq_any (s : ByteArray) (w : World) : Calls Tryd.prog 88 #[.string s, .string { data := #[47] }] w fun e w' =>
    e = .returned (.func (.func 127) #[] #[.pointer (some ⟨w.heap.size + 1, 0, none⟩), .pointer (some ⟨w.heap.size, 0, none⟩), .pointer (some ⟨w.heap.size + 2, 0, none⟩)]) ∧
    w' = ((w.alloc (.cells #[.string s] 9)).alloc (.cells #[.string { data := #[47] }] 9)).alloc (.cells #[.int .i64 0] 3) := by
  have h1 : Calls Tryd.prog 107 #[.string s, .string { data := #[47] }, .int .i64 0] w fun e w' =>
      e = .returned (.func (.func 127) #[] #[.pointer (some ⟨w.heap.size + 1, 0, none⟩), .pointer (some ⟨w.heap.size, 0, none⟩), .pointer (some ⟨w.heap.size + 2, 0, none⟩)]) ∧
      w' = ((w.alloc (.cells #[.string s] 9)).alloc (.cells #[.string { data := #[47] }] 9)).alloc (.cells #[.int .i64 0] 3) := by
    go_enter Tryd.func107, Tryd.ntmps107
    go_wp2
    go_ret
    exact ⟨rfl, rfl⟩
  go_enter Tryd.func88, Tryd.ntmps88
  go_wp2_with (go_at_call 107; refine h1.mono ?_; rintro e w' ⟨rfl, rfl⟩)
  go_ret
  exact ⟨rfl, rfl⟩
set_option maxRecDepth 100000 in
set_option maxHeartbeats 2000000 in
theorem split_seq (Bs Bq Bv : Nat) (s : ByteArray) (w : World) (hB : Blk w Bs [.string s] 9) (hQ : Blk w Bq [.string { data := #[47] }] 9) (hV : Blk w Bv [.int .i64 0] 3) (hne : Bq ≠ Bs ∧ Bv ≠ Bs) (hs : s.size ≤ 9223372036854775806) :
    SeqW Tryd.prog 127 #[.pointer (some ⟨Bq, 0, none⟩), .pointer (some ⟨Bs, 0, none⟩), .pointer (some ⟨Bv, 0, none⟩)] (fun x : Shs => #[Value.string x.1]) [Bs] [Bs, Bq, Bv] (fun xs => xs.map Subtype.val = partsS s) (fun pre => pre.map Subtype.val <+: partsS s) (partsS s).length w := by
  intro l J Jx W hU hz hJ hJx hY h0
  have b1 : Blk W Bs [.string s] 9 := hB.upd hU (by simp)
  have b2 : Blk W Bq [.string { data := #[47] }] 9 := hQ.upd hU (by simp)
  have b3 : Blk W Bv [.int .i64 0] 3 := hV.upd hU (by simp)
  have HJ := Lib.hid hJ
  have HY := Lib.hid hY
  have HJ0 := Lib.hid h0
  clear hJ hY h0 hJx hU hz hB hQ hV
  have HB : Hid (Blk W Bs [.string s] 9 ∧ Blk W Bq [.string { data := #[47] }] 9 ∧ Blk W Bv [.int .i64 0] 3) := Lib.hid ⟨b1, b2, b3⟩
  have cq0 := b2.cell 0 rfl
  clear b1 b2 b3
  obtain ⟨hq1, hq2⟩ := hne
  have HN := Lib.hid hq1
  have HN2 := Lib.hid hq2
  clear hq1 hq2
  refine callsIn_of_wp Tryd.func127 rfl trivial ?_ rfl
  simp only [Tryd.ntmps127, List.size_toArray, List.length_cons, List.length_nil, Nat.reduceAdd, Nat.reduceSub, Array.replicate_succ, Array.replicate_zero, List.push_toArray, List.append_toArray, List.nil_append, List.cons_append]
  gi_wp2
  clear cq0
  gi_loopg [] s.size (fun g wr => ∃ r : ByteArray, ∃ pre : List Shs, g = r.size ∧ r.size ≤ s.size ∧ Hid (partsS s = pre.map Subtype.val ++ partsS r) ∧ Hid (J pre wr) ∧ Hid (Blk wr Bs [.string r] 9 ∧ Blk wr Bq [.string { data := #[47] }] 9 ∧ Blk wr Bv [.int .i64 0] 3))
  case atStart => exact ⟨s, [], rfl, Nat.le_refl _, Lib.hid rfl, HJ0, HB⟩
  case round =>
    obtain ⟨r, pre, rfl, hrs, HP, HJp, HBk⟩ := hrel
    clear HB HJ0
    have hr1 : r.size ≤ 9223372036854775806 := by omega
    have c1 := HBk.out.1.cell 0 rfl
    have c2 := HBk.out.2.1.cell 0 rfl
    have c3 := HBk.out.2.2.cell 0 rfl
    have hf1 := HBk.out.1.frz 0
    have hlt : Bs < wr.heap.size := HBk.out.1.lt
    by_cases hc : firstS (bytesOf r) < r.size
    · have HIX := Lib.hid (fun w => index_yes r w hc)
      have HPF := Lib.hid (partsS_first r hc)
      generalize firstS (bytesOf r) = f at *
      have hlen : pre.length < (partsS s).length := by rw [HP.out, HPF.out, List.length_append, List.length_map, List.length_cons]; omega
      have hxf0 : (r.extract 0 f).size ≤ 9223372036854775807 := by rw [ByteArray.size_extract]; omega
      obtain ⟨fn, tmps, assign, body, hy, hRd⟩ := HY.out pre ⟨r.extract 0 f, hxf0⟩ wr HJp.out hlen (by intro q hq; simp at hq; subst hq; exact hlt)
      clear hlen
      have HLT := Lib.hid hlt
      clear hlt
      gi_wp2_with fail
      refine ⟨trivial, (callsIn_wide.2 (HIX.out _)).mono ?_⟩
      rintro e w2 ⟨rfl, rfl⟩
      gi_wp2
      refine hRd.mono ?_
      rintro e W3 (⟨rfl, hJ3, hk3⟩ | ⟨rfl, hJx3⟩)
      · have d1 : Blk W3 Bs [.string r] 9 := (hk3.2 Bs (by simp)).trans HBk.out.1
        have d2 : Blk W3 Bq [.string { data := #[47] }] 9 := (hk3.2 Bq (by simp)).trans HBk.out.2.1
        have d3 : Blk W3 Bv [.int .i64 0] 3 := (hk3.2 Bv (by simp)).trans HBk.out.2.2
        have hx1 := d1.cell 0 rfl
        have hx2 := d2.cell 0 rfl
        have hxf := d1.frz 0
        have HD : Hid (Blk W3 Bs [.string r] 9 ∧ Blk W3 Bq [.string { data := #[47] }] 9 ∧ Blk W3 Bv [.int .i64 0] 3) := Lib.hid ⟨d1, d2, d3⟩
        have HJ3 := Lib.hid hJ3
        clear d1 d2 d3 hk3 hJ3 c1 c2 c3 hf1 hy HBk
        have hsz : (r.extract (f + 1) r.size).size = r.size - (f + 1) := by rw [ByteArray.size_extract]; omega
        have HSZ := Lib.hid hsz
        clear hsz
        gi_wp2
        gi_roundg (r.size - (f + 1))
        all_goals first
          | omega
          | (refine ⟨r.extract (f + 1) r.size, pre ++ [⟨r.extract 0 f, hxf0⟩], HSZ.out.symm, by rw [HSZ.out]; omega, Lib.hid (by rw [HP.out, HPF.out]; simp), Lib.hid (HJ.out _ _ _ HJ3.out ?_), Lib.hid ⟨?_, ?_, ?_⟩⟩
             · exact own2_of ((Upd.refl [Bs] _).setCell (.inl (by simp)) _) (fun k hk => hk) (fun k hk => by simp at hk; subst hk; exact HD.out.1.cellsOnly)
             · exact HD.out.1.set 0 _
             · exact HD.out.2.1.setFar _ HN.out
             · exact HD.out.2.2.setFar _ HN2.out)
      · gi_wp2
        refine bodyPost_ret (results_none rfl _ _ _) rfl ?_
        exact ⟨⟨_, rfl⟩, .inr ⟨_, by rw [HP.out, HPF.out]; exact ⟨partsS (r.extract (f + 1) r.size), by simp⟩, hJx3⟩⟩
    · have HIX := Lib.hid (fun w => index_no r w hc)
      have HPF := Lib.hid (partsS_last r hc)
      have hlen : pre.length < (partsS s).length := by rw [HP.out, HPF.out, List.length_append, List.length_map, List.length_cons]; omega
      obtain ⟨fn, tmps, assign, body, hy, hRd⟩ := HY.out pre ⟨r, by omega⟩ wr HJp.out hlen (by intro q hq; simp at hq; subst hq; exact hlt)
      clear hlen hc
      have HLT := Lib.hid hlt
      clear hlt
      gi_wp2_with fail
      refine ⟨trivial, (callsIn_wide.2 (HIX.out _)).mono ?_⟩
      rintro e w2 ⟨rfl, rfl⟩
      gi_wp2
      refine hRd.mono ?_
      rintro e W3 (⟨rfl, hJ3, hk3⟩ | ⟨rfl, hJx3⟩)
      · gi_wp2
        go_end0
        exact ⟨⟨_, rfl⟩, .inl ⟨_, by rw [HP.out, HPF.out]; simp, hJ3⟩⟩
      · gi_wp2
        go_end0
        exact ⟨⟨_, rfl⟩, .inr ⟨_, by rw [HP.out, HPF.out]; simp, hJx3⟩⟩
end Go.Proofs.YtigjingielnaoaaDoor

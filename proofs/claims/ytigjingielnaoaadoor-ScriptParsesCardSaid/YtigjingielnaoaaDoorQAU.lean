/- Package name: part. -/
import Derived.Test.YtigjingielnaoaaDoorNameU
import Derived.Test.YtigjingielnaoaaDoorQAG
namespace Go.Proofs.YtigjingielnaoaaDoor
set_option linter.unusedVariables false
set_option linter.unusedSimpArgs false
set_option linter.unusedSectionVars false
open Go.RowKit
set_option linter.unusedVariables false

/-- A byte that no part may have. -/
def badC (c : Nat) : Bool := decide (c < 32) || decide (c = 127) || decide (c = 47) || decide (c = 92) || decide (c = 58)
theorem partOk_bad {l : List Nat} {i c : Nat} (h : l[i]? = some c) (hb : badC c = true) : partOk l = false := by
  have hm : c ∈ l := List.mem_of_getElem? h
  have : l.all (fun c => !(decide (c < 32) || decide (c = 127) || decide (c = 47) || decide (c = 92) || decide (c = 58))) = false := by
    rw [List.all_eq_false]
    exact ⟨c, hm, by unfold badC at hb; simp only [hb]; simp⟩
  unfold partOk; rw [this]; rfl
theorem partOk_eq {l : List Nat} (h : ∀ (i c : Nat), l[i]? = some c → badC c = false) : partOk l = (decide (1 ≤ l.length) && decide (l.length ≤ 60) && decide (l ≠ [46]) && decide (l ≠ [46, 46]) && utfP l) := by
  have : l.all (fun c => !(decide (c < 32) || decide (c = 127) || decide (c = 47) || decide (c = 92) || decide (c = 58))) = true := by
    rw [List.all_eq_true]
    intro c hc
    obtain ⟨i, hi⟩ := List.getElem?_of_mem hc
    have := h i c hi
    unfold badC at this
    simp only [this]; rfl
  unfold partOk; rw [this]; simp
theorem toList_bytes (s : ByteArray) (l : List UInt8) : (s.toList == l) = decide (bytesOf s = l.map UInt8.toNat) := by
  rw [Bool.eq_iff_iff, beq_iff_eq, decide_eq_true_eq, ByteArray.toList_eq]
  constructor
  · intro h; unfold bytesOf; rw [h]
  · intro h
    unfold bytesOf at h
    have hi : Function.Injective UInt8.toNat := fun a b e => UInt8.toNat_inj.1 e
    exact (List.map_inj_right (fun a b e => hi e)).1 h
theorem ne_dot (s : ByteArray) : (s.toList == [46]) = decide (bytesOf s = [46]) := toList_bytes s [46]
theorem ne_dots (s : ByteArray) : (s.toList == [46, 46]) = decide (bytesOf s = [46, 46]) := toList_bytes s [46, 46]
set_option maxRecDepth 100000 in
set_option maxHeartbeats 4000000 in
theorem part_any (s : ByteArray) (w : World) (hs : s.size ≤ 9223372036854775807) : Calls Tryd.prog 97 #[.string s] w fun e w' => e = .returned (.bool (partOk (bytesOf s))) ∧ w = w' := by
  go_enter Tryd.func97, Tryd.ntmps97
  go_wp2
  go_loopg [7] s.size (fun g t wr => ∃ k : Nat, k ≤ s.size ∧ t = .int .i64 (k : Nat) ∧ g = s.size - k ∧ Hid (∀ i c : Nat, i < k → (bytesOf s)[i]? = some c → badC c = false) ∧ w = wr)
  case atStart => exact ⟨0, Nat.zero_le _, rfl, rfl, Lib.hid (fun i c h => by omega), rfl⟩
  case round =>
    obtain ⟨k, hk, rfl, rfl, HA, rfl⟩ := hrel
    by_cases hc : k < s.size
    · have HG := Lib.hid (bytesOf_get? s k hc)
      cases hb : badC s[k].toNat with
      | true =>
        have HE := Lib.hid (partOk_bad HG.out hb)
        unfold badC at hb
        have HB := Lib.hid hb
        clear hb HA HG
        have fin : ∀ b : Bool, b = false → Ending.returned (.bool b) = .returned (.bool (partOk (bytesOf s))) := fun b h => by rw [h, HE.out]
        have FIN := Lib.hid fin
        clear fin
        by_cases c1 : s[k].toNat < 32
        · have t1 : decide ((s[k].toNat : Int) < 32) = true := decide_eq_true (by omega)
          go_wp2
          go_ret
          exact ⟨FIN.out _ rfl, rfl⟩
        · have t1 : decide ((s[k].toNat : Int) < 32) = false := decide_eq_false (by omega)
          by_cases c2 : s[k].toNat = 127
          · have t2 : ((s[k].toNat : Int) == 127) = true := by rw [beq_iff_eq]; omega
            clear c1 c2
            go_wp2
            go_ret
            exact ⟨FIN.out _ rfl, rfl⟩
          · have t2 : ((s[k].toNat : Int) == 127) = false := by rw [beq_eq_false_iff_ne]; omega
            by_cases c3 : s[k].toNat = 47
            · have t3 : ((s[k].toNat : Int) == 47) = true := by rw [beq_iff_eq]; omega
              clear c1 c2 c3
              go_wp2
              go_ret
              exact ⟨FIN.out _ rfl, rfl⟩
            · have t3 : ((s[k].toNat : Int) == 47) = false := by rw [beq_eq_false_iff_ne]; omega
              by_cases c4 : s[k].toNat = 92
              · have t4 : ((s[k].toNat : Int) == 92) = true := by rw [beq_iff_eq]; omega
                clear c1 c2 c3 c4
                go_wp2
                go_ret
                exact ⟨FIN.out _ rfl, rfl⟩
              · have t4 : ((s[k].toNat : Int) == 92) = false := by rw [beq_eq_false_iff_ne]; omega
                have t5 : ((s[k].toNat : Int) == 58) = true := by
                  have := HB.out
                  simp [c1, c2, c3, c4] at this
                  rw [beq_iff_eq]; omega
                clear c1 c2 c3 c4
                go_wp2
                go_ret
                exact ⟨FIN.out _ rfl, rfl⟩
      | false =>
        have HA2 : Hid (∀ i c : Nat, i < k + 1 → (bytesOf s)[i]? = some c → badC c = false) := Lib.hid (fun i c h1 h2 => by
          by_cases e : i = k
          · subst e; rw [HG.out] at h2; simp at h2; subst h2; exact hb
          · exact HA.out i c (by omega) h2)
        unfold badC at hb
        simp only [Bool.or_eq_false_iff, decide_eq_false_iff_not] at hb
        obtain ⟨⟨⟨⟨c1, c2⟩, c3⟩, c4⟩, c5⟩ := hb
        have t1 : decide ((s[k].toNat : Int) < 32) = false := decide_eq_false (by omega)
        have t2 : ((s[k].toNat : Int) == 127) = false := by rw [beq_eq_false_iff_ne]; omega
        have t3 : ((s[k].toNat : Int) == 47) = false := by rw [beq_eq_false_iff_ne]; omega
        have t4 : ((s[k].toNat : Int) == 92) = false := by rw [beq_eq_false_iff_ne]; omega
        have t5 : ((s[k].toNat : Int) == 58) = false := by rw [beq_eq_false_iff_ne]; omega
        clear c1 c2 c3 c4 c5 HA HG
        go_wp2
        go_roundg (s.size - (k + 1))
        all_goals first
          | omega
          | exact ⟨k + 1, by omega, by go_num, rfl, HA2, rfl⟩
    · have hlen := length_bytesOf s
      have HE := Lib.hid (partOk_eq (l := bytesOf s) (fun i c h => HA.out i c (by have := (List.getElem?_eq_some_iff.1 h).1; omega) h))
      rw [hlen] at HE
      obtain rfl : k = s.size := by omega
      have HL := Lib.hid (fun w => letters_any s w hs)
      have HD1 := Lib.hid (ne_dot s)
      have HD2 := Lib.hid (ne_dots s)
      clear hlen HA hc hk
      by_cases c1 : 1 ≤ s.size
      · by_cases c2 : s.size ≤ 60
        · by_cases c3 : bytesOf s = [46]
          · have t3 : (s.toList == [46]) = true := HD1.out.trans (decide_eq_true c3)
            have HZ : Hid (partOk (bytesOf s) = false) := Lib.hid (by rw [HE.out]; simp [c3])
            clear c3
            go_wp2
            go_ret
            exact ⟨by rw [HZ.out]; rfl, rfl⟩
          · have t3 : (s.toList == [46]) = false := HD1.out.trans (decide_eq_false c3)
            by_cases c4 : bytesOf s = [46, 46]
            · have t4 : (s.toList == [46, 46]) = true := HD2.out.trans (decide_eq_true c4)
              have HZ : Hid (partOk (bytesOf s) = false) := Lib.hid (by rw [HE.out]; simp [c4])
              clear c3 c4
              go_wp2
              go_ret
              exact ⟨by rw [HZ.out]; rfl, rfl⟩
            · have t4 : (s.toList == [46, 46]) = false := HD2.out.trans (decide_eq_false c4)
              have HZ : Hid (partOk (bytesOf s) = utfP (bytesOf s)) := Lib.hid (by rw [HE.out, decide_eq_true c1, decide_eq_true c2, decide_eq_true c3, decide_eq_true c4]; simp)
              clear c3 c4
              go_wp2_with (go_at_call 116; refine (HL.out _).mono ?_; rintro e w' ⟨rfl, rfl⟩)
              go_ret
              exact ⟨by rw [HZ.out]; rfl, rfl⟩
        · have HZ : Hid (partOk (bytesOf s) = false) := Lib.hid (by rw [HE.out, decide_eq_false c2]; simp)
          go_wp2
          go_ret
          exact ⟨by rw [HZ.out]; rfl, rfl⟩
      · have HZ : Hid (partOk (bytesOf s) = false) := Lib.hid (by rw [HE.out, decide_eq_false c1]; simp)
        go_wp2
        go_ret
        exact ⟨by rw [HZ.out]; rfl, rfl⟩
end Go.Proofs.YtigjingielnaoaaDoor
namespace Go.Proofs.YtigjingielnaoaaDoor
set_option linter.unusedVariables false
set_option linter.unusedSimpArgs false
set_option linter.unusedSectionVars false
open Go.RowKit Go.Shelf
attribute [local go_sem] Oper.semAt_some
set_option linter.unusedVariables false

/-- The parts of a path, as strings. -/
def partsS (s : ByteArray) : List ByteArray := (splitP (bytesOf s)).map strOf
theorem partsS_first (s : ByteArray) (h : firstS (bytesOf s) < s.size) : partsS s = s.extract 0 (firstS (bytesOf s)) :: partsS (s.extract (firstS (bytesOf s) + 1) s.size) := by
  unfold partsS
  rw [splitP_first _ (by rw [length_bytesOf]; exact h), List.map_cons, ← strOf_take, bytesOf_extract, List.take_of_length_le (by rw [List.length_drop, length_bytesOf]; omega)]
theorem partsS_last (s : ByteArray) (h : ¬ firstS (bytesOf s) < s.size) : partsS s = [s] := by
  unfold partsS
  rw [splitP_last _ (by rw [length_bytesOf]; exact h), List.map_cons, strOf_bytesOf]; rfl
/-- A string, as strings go. -/
abbrev Shs := { x : ByteArray // x.size ≤ 9223372036854775807 }
/-- SplitSeq's iterator, closed over its three boxes. -/
theorem splitSeq_any (s : ByteArray) (w : World) : Calls Tryd.prog 88 #[.string s, .string { data := #[47] }] w fun e w' =>
    e = .returned (.func (.func 127) #[] #[.pointer (some ⟨w.heap.size + 1, 0, none⟩), .pointer (some ⟨w.heap.size, 0, none⟩), .pointer (some ⟨w.heap.size + 2, 0, none⟩)]) ∧
    w' = ((w.alloc (.cells #[.string s] 9)).alloc (.cells #[.string { data := #[47] }] 9)).alloc (.cells #[.int .i64 0] 3) := by
  have h1 : Calls Tryd.prog 107 #[.string s, .string { data := #[47] }, .int .i64 0] w fun e w' =>
      e = .returned (.func (.func 127) #[] #[.pointer (some ⟨w.heap.size + 1, 0, none⟩), .pointer (some ⟨w.heap.size, 0, none⟩), .pointer (some ⟨w.heap.size + 2, 0, none⟩)]) ∧
      w' = ((w.alloc (.cells #[.string s] 9)).alloc (.cells #[.string { data := #[47] }] 9)).alloc (.cells #[.int .i64 0] 3) := by
    go_enter Tryd.func107, Tryd.ntmps107
    go_wp2
    go_ret
    exact ⟨rfl, rfl⟩
  go_enter Tryd.func88, Tryd.ntmps88
  go_wp2_with (go_at_call 107; refine h1.mono ?_; rintro e w' ⟨rfl, rfl⟩)
  go_ret
  exact ⟨rfl, rfl⟩
set_option maxRecDepth 100000 in
set_option maxHeartbeats 2000000 in
theorem split_seq (Bs Bq Bv : Nat) (s : ByteArray) (w : World) (hB : Blk w Bs [.string s] 9) (hQ : Blk w Bq [.string { data := #[47] }] 9) (hV : Blk w Bv [.int .i64 0] 3) (hne : Bq ≠ Bs ∧ Bv ≠ Bs) (hs : s.size ≤ 9223372036854775806) :
    SeqW Tryd.prog 127 #[.pointer (some ⟨Bq, 0, none⟩), .pointer (some ⟨Bs, 0, none⟩), .pointer (some ⟨Bv, 0, none⟩)] (fun x : Shs => #[Value.string x.1]) [Bs] [Bs, Bq, Bv] (fun xs => xs.map Subtype.val = partsS s) (fun pre => pre.map Subtype.val <+: partsS s) (partsS s).length w := by
  intro l J Jx W hU hz hJ hJx hY h0
  have b1 : Blk W Bs [.string s] 9 := hB.upd hU (by simp)
  have b2 : Blk W Bq [.string { data := #[47] }] 9 := hQ.upd hU (by simp)
  have b3 : Blk W Bv [.int .i64 0] 3 := hV.upd hU (by simp)
  have HJ := Lib.hid hJ
  have HY := Lib.hid hY
  have HJ0 := Lib.hid h0
  clear hJ hY h0 hJx hU hz hB hQ hV
  have HB : Hid (Blk W Bs [.string s] 9 ∧ Blk W Bq [.string { data := #[47] }] 9 ∧ Blk W Bv [.int .i64 0] 3) := Lib.hid ⟨b1, b2, b3⟩
  have cq0 := b2.cell 0 rfl
  clear b1 b2 b3
  obtain ⟨hq1, hq2⟩ := hne
  have HN := Lib.hid hq1
  have HN2 := Lib.hid hq2
  clear hq1 hq2
  refine callsIn_of_wp Tryd.func127 rfl trivial ?_ rfl
  simp only [Tryd.ntmps127, List.size_toArray, List.length_cons, List.length_nil, Nat.reduceAdd, Nat.reduceSub, Array.replicate_succ, Array.replicate_zero, List.push_toArray, List.append_toArray, List.nil_append, List.cons_append]
  gi_wp2
  clear cq0
  gi_loopg [] s.size (fun g wr => ∃ r : ByteArray, ∃ pre : List Shs, g = r.size ∧ r.size ≤ s.size ∧ Hid (partsS s = pre.map Subtype.val ++ partsS r) ∧ Hid (J pre wr) ∧ Hid (Blk wr Bs [.string r] 9 ∧ Blk wr Bq [.string { data := #[47] }] 9 ∧ Blk wr Bv [.int .i64 0] 3))
  case atStart => exact ⟨s, [], rfl, Nat.le_refl _, Lib.hid rfl, HJ0, HB⟩
  case round =>
    obtain ⟨r, pre, rfl, hrs, HP, HJp, HBk⟩ := hrel
    clear HB HJ0
    have hr1 : r.size ≤ 9223372036854775806 := by omega
    have c1 := HBk.out.1.cell 0 rfl
    have c2 := HBk.out.2.1.cell 0 rfl
    have c3 := HBk.out.2.2.cell 0 rfl
    have hf1 := HBk.out.1.frz 0
    have hlt : Bs < wr.heap.size := HBk.out.1.lt
    by_cases hc : firstS (bytesOf r) < r.size
    · have HIX := Lib.hid (fun w => index_yes r w hc)
      have HPF := Lib.hid (partsS_first r hc)
      generalize firstS (bytesOf r) = f at *
      have hlen : pre.length < (partsS s).length := by rw [HP.out, HPF.out, List.length_append, List.length_map, List.length_cons]; omega
      have hxf0 : (r.extract 0 f).size ≤ 9223372036854775807 := by rw [ByteArray.size_extract]; omega
      obtain ⟨fn, tmps, assign, body, hy, hRd⟩ := HY.out pre ⟨r.extract 0 f, hxf0⟩ wr HJp.out hlen (by intro q hq; simp at hq; subst hq; exact hlt)
      clear hlen
      have HLT := Lib.hid hlt
      clear hlt
      gi_wp2_with fail
      refine ⟨trivial, (callsIn_wide.2 (HIX.out _)).mono ?_⟩
      rintro e w2 ⟨rfl, rfl⟩
      gi_wp2
      refine hRd.mono ?_
      rintro e W3 (⟨rfl, hJ3, hk3⟩ | ⟨rfl, hJx3⟩)
      · have d1 : Blk W3 Bs [.string r] 9 := (hk3.2 Bs (by simp)).trans HBk.out.1
        have d2 : Blk W3 Bq [.string { data := #[47] }] 9 := (hk3.2 Bq (by simp)).trans HBk.out.2.1
        have d3 : Blk W3 Bv [.int .i64 0] 3 := (hk3.2 Bv (by simp)).trans HBk.out.2.2
        have hx1 := d1.cell 0 rfl
        have hx2 := d2.cell 0 rfl
        have hxf := d1.frz 0
        have HD : Hid (Blk W3 Bs [.string r] 9 ∧ Blk W3 Bq [.string { data := #[47] }] 9 ∧ Blk W3 Bv [.int .i64 0] 3) := Lib.hid ⟨d1, d2, d3⟩
        have HJ3 := Lib.hid hJ3
        clear d1 d2 d3 hk3 hJ3 c1 c2 c3 hf1 hy HBk
        have hsz : (r.extract (f + 1) r.size).size = r.size - (f + 1) := by rw [ByteArray.size_extract]; omega
        have HSZ := Lib.hid hsz
        clear hsz
        gi_wp2
        gi_roundg (r.size - (f + 1))
        all_goals first
          | omega
          | (refine ⟨r.extract (f + 1) r.size, pre ++ [⟨r.extract 0 f, hxf0⟩], HSZ.out.symm, by rw [HSZ.out]; omega, Lib.hid (by rw [HP.out, HPF.out]; simp), Lib.hid (HJ.out _ _ _ HJ3.out ?_), Lib.hid ⟨?_, ?_, ?_⟩⟩
             · exact own2_of ((Upd.refl [Bs] _).setCell (.inl (by simp)) _) (fun k hk => hk) (fun k hk => by simp at hk; subst hk; exact HD.out.1.cellsOnly)
             · exact HD.out.1.set 0 _
             · exact HD.out.2.1.setFar _ HN.out
             · exact HD.out.2.2.setFar _ HN2.out)
      · gi_wp2
        refine bodyPost_ret (results_none rfl _ _ _) rfl ?_
        exact ⟨⟨_, rfl⟩, .inr ⟨_, by rw [HP.out, HPF.out]; exact ⟨partsS (r.extract (f + 1) r.size), by simp⟩, hJx3⟩⟩
    · have HIX := Lib.hid (fun w => index_no r w hc)
      have HPF := Lib.hid (partsS_last r hc)
      have hlen : pre.length < (partsS s).length := by rw [HP.out, HPF.out, List.length_append, List.length_map, List.length_cons]; omega
      obtain ⟨fn, tmps, assign, body, hy, hRd⟩ := HY.out pre ⟨r, by omega⟩ wr HJp.out hlen (by intro q hq; simp at hq; subst hq; exact hlt)
      clear hlen hc
      have HLT := Lib.hid hlt
      clear hlt
      gi_wp2_with fail
      refine ⟨trivial, (callsIn_wide.2 (HIX.out _)).mono ?_⟩
      rintro e w2 ⟨rfl, rfl⟩
      gi_wp2
      refine hRd.mono ?_
      rintro e W3 (⟨rfl, hJ3, hk3⟩ | ⟨rfl, hJx3⟩)
      · gi_wp2
        go_end0
        exact ⟨⟨_, rfl⟩, .inl ⟨_, by rw [HP.out, HPF.out]; simp, hJ3⟩⟩
      · gi_wp2
        go_end0
        exact ⟨⟨_, rfl⟩, .inr ⟨_, by rw [HP.out, HPF.out]; simp, hJx3⟩⟩
end Go.Proofs.YtigjingielnaoaaDoor

/- Package swingleref35: Lines: its walk. -/
import Derived.Test.YtigjingielnaoaaDoorQAV
import Derived.Test.YtigjingielnaoaaDoorQBD
import Derived.Test.YtigjingielnaoaaDoorScH
import Derived.Test.YtigjingielnaoaaDoorSRd
namespace Go.Proofs.YtigjingielnaoaaDoor
set_option linter.unusedVariables false
set_option linter.unusedSimpArgs false
set_option linter.unusedSectionVars false
open Go.RowKit
set_option linter.unusedVariables false
set_option linter.unusedSimpArgs false

/-- The lines of a text. -/
def linesP (l : List Nat) : List (List Nat) := (splitC 10 l).dropLast ++ (if (splitC 10 l).getLastD [] = [] then [] else [(splitC 10 l).getLastD []])
theorem joinC10_nil (l : List Nat) : joinP [] (splitC 10 l) = splitC 10 l := by
  obtain ⟨a, r, h⟩ := List.exists_cons_of_ne_nil (splitC_ne 10 l)
  rw [h]; rfl
theorem joinC10_cut (s r : List Nat) : joinP s (splitC 10 (10 :: r)) = s :: joinP [] (splitC 10 r) := by
  rw [joinC10_nil]; simp [joinP, splitC]
theorem joinC10_step (s r : List Nat) (c : Nat) (h : c ≠ 10) : joinP s (splitC 10 (c :: r)) = joinP (s ++ [c]) (splitC 10 r) := by
  have e : splitC 10 (c :: r) = (c :: (splitC 10 r).headD []) :: (splitC 10 r).tail := by rw [splitC, if_neg h]
  rw [e]; simp [joinP]
set_option maxRecDepth 100000 in
set_option maxHeartbeats 4000000 in
theorem rlines_any (s : ByteArray) (w : World) (hs : s.size ≤ 100000) : Calls Tryd.prog 15 #[.string s] w fun e w' =>
    (∃ v, e = .returned v ∧ Row w' 9 1 v (linesP (bytesOf s)).length ((linesP (bytesOf s)).map strV)) ∧ Upd [] w w' := by
  obtain ⟨i0, hi, hz0, hz1, hz2⟩ := info_parts infoStr
  go_enter Tryd.func15, Tryd.ntmps15
  go_wp2
  go_loopg [3, 4, 5] s.size (fun g v t c wr => ∃ (i : Nat) (done : List (List Nat)) (cur : List Nat), i ≤ s.size ∧ done.length ≤ i ∧ cur.length ≤ i ∧ t = .string (strOf cur) ∧ c = .int .i64 (i : Nat) ∧ g = s.size - i ∧ Hid (splitC 10 (bytesOf s) = done ++ joinP cur (splitC 10 ((bytesOf s).drop i))) ∧ Hid (Row wr 9 1 v done.length (done.map strV)) ∧ Hid (∀ b, v.ownBlock = some b → w.heap.size ≤ b) ∧ Hid (Upd [] w wr))
  case atStart => exact ⟨0, [], [], Nat.zero_le _, Nat.zero_le _, Nat.zero_le _, rfl, rfl, rfl, Lib.hid (by rw [List.drop_zero, joinC10_nil]; rfl), Lib.hid (Row.nil _ _ _), Lib.hid (by simp [Value.ownBlock]), Lib.hid (Upd.refl _ _)⟩
  case round =>
    obtain ⟨i, done, cur, hi1, hd, hcu, rfl, rfl, rfl, HS, HR, HB, HU⟩ := hrel
    obtain ⟨va, vc, hv⟩ := HR.out.form
    subst hv
    by_cases hc : i < s.size
    · have hbl : s[i].toNat < 256 := s[i].toNat_lt
      have HC := Lib.hid (strOf_snoc s cur i hc)
      have hdr : (bytesOf s).drop i = s[i].toNat :: (bytesOf s).drop (i + 1) := by
        rw [List.drop_eq_getElem_cons (by rw [length_bytesOf]; exact hc), bytesOf_get s i hc]
      have HD := Lib.hid hdr
      have hsz : (strOf cur).size = cur.length := size_strOf cur
      clear hdr
      by_cases h10 : s[i].toNat = 10
      · have t1 : ((s[i].toNat : Int) == 10) = true := by rw [beq_iff_eq]; omega
        have HS2 : Hid (splitC 10 (bytesOf s) = (done ++ [cur]) ++ joinP [] (splitC 10 ((bytesOf s).drop (i + 1)))) := Lib.hid (by rw [HS.out, HD.out, h10, joinC10_cut]; simp)
        clear h10 HS HC HD
        go_wp2_with (at_builtin; refine wpList_app _ rfl _ _ 40 rfl 9 i0 _ 1 16 Tryd.underlying40 hi hz0 hz1 hz2 rfl (by omega) (.slice va done.length vc) done.length _ rfl (HR.out.alloc _) ⟨wr.heap.size, 0, none⟩ 1 1 [_] rfl rfl (World.news_of_block (cs := #[_]) (t := 9) (fr := (0, 0)) (heap_alloc_new _ _)) (by simp [Value.oneCell']) (by unfold maxLen; omega) (by omega) ?_)
        rintro v9 w9 hR9 hU9 hT9
        obtain ⟨va9, vc9, rfl⟩ := hR9.form
        have hB9 : ∀ b, (Value.slice va9 (done.length + 1) vc9).ownBlock = some b → w.heap.size ≤ b := fun b hb => by
          have := HU.out.size
          rcases hT9 with e | ⟨g, e1, e2⟩
          · exact HB.out b (by rw [← e]; exact hb)
          · rw [hb] at e1; simp at e1 e2; omega
        have HF : Hid (Row w9 9 1 (.slice va9 (done.length + 1) vc9) (done ++ [cur]).length ((done ++ [cur]).map strV) ∧ (∀ b, (Value.slice va9 (done.length + 1) vc9).ownBlock = some b → w.heap.size ≤ b) ∧ Upd [] w w9) := Lib.hid ⟨by
            rw [List.length_append, List.map_append]; exact hR9, hB9, (HU.out.then ((Upd.refl _ _).alloc _)).trans hU9 (fun k hk => .inr (HB.out k (by simpa using hk)))⟩
        clear hR9 hU9 hT9 hB9 HR HB HU
        go_wp2
        go_roundg (s.size - (i + 1))
        all_goals first
          | omega
          | exact ⟨i + 1, done ++ [cur], [], by omega, by simp; omega, by simp, rfl, by go_num, rfl, HS2, Lib.hid HF.out.1, Lib.hid HF.out.2.1, Lib.hid HF.out.2.2⟩
      · have t1 : ((s[i].toNat : Int) == 10) = false := by rw [beq_eq_false_iff_ne]; omega
        have HS2 : Hid (splitC 10 (bytesOf s) = done ++ joinP (cur ++ [s[i].toNat]) (splitC 10 ((bytesOf s).drop (i + 1)))) := Lib.hid (by rw [HS.out, HD.out, joinC10_step _ _ _ h10])
        clear h10 HS HD
        go_wp2
        go_roundg (s.size - (i + 1))
        all_goals first
          | omega
          | exact ⟨i + 1, done, cur ++ [s[i].toNat], by omega, by omega, by simp; omega, by rw [HC.out], by go_num, rfl, HS2, HR, HB, HU⟩
    · have hlen := length_bytesOf s
      have HS2 : Hid (splitC 10 (bytesOf s) = done ++ [cur]) := Lib.hid (by rw [HS.out, List.drop_of_length_le (by omega)]; simp [splitC, joinP])
      clear HS hlen
      have hem := isEmpty_of (strOf cur)
      have HCB : Hid (bytesOf (strOf cur) = [] ↔ cur = []) := Lib.hid (by
        constructor
        · intro h
          have h1 := congrArg List.length h
          rw [length_bytesOf, size_strOf] at h1
          exact List.eq_nil_of_length_eq_zero h1
        · rintro rfl; rfl)
      by_cases hc0 : cur = []
      · have HL : Hid (linesP (bytesOf s) = done) := Lib.hid (by unfold linesP; rw [HS2.out]; simp [hc0])
        have hem2 : (strOf cur).toList.isEmpty = true := by rw [hem]; exact decide_eq_true (HCB.out.2 hc0)
        clear hem hc0 HCB
        go_wp2
        go_ret
        exact ⟨⟨_, rfl, by rw [HL.out]; exact HR.out⟩, HU.out⟩
      · have HL : Hid (linesP (bytesOf s) = done ++ [cur]) := Lib.hid (by unfold linesP; rw [HS2.out]; simp [hc0])
        have hem2 : (strOf cur).toList.isEmpty = false := by rw [hem]; exact decide_eq_false (fun h => hc0 (HCB.out.1 h))
        clear hem hc0 HCB
        go_wp2_with (at_builtin; refine wpList_app _ rfl _ _ 40 rfl 9 i0 _ 1 16 Tryd.underlying40 hi hz0 hz1 hz2 rfl (by omega) (.slice va done.length vc) done.length _ rfl (HR.out.alloc _) ⟨wr.heap.size, 0, none⟩ 1 1 [_] rfl rfl (World.news_of_block (cs := #[_]) (t := 9) (fr := (0, 0)) (heap_alloc_new _ _)) (by simp [Value.oneCell']) (by unfold maxLen; omega) (by omega) ?_)
        rintro v9 w9 hR9 hU9 hT9
        obtain ⟨g, cap, rfl, hg1, hg2⟩ := hR9.form' (by omega)
        have HF := Lib.hid hR9
        have HUU := Lib.hid ((HU.out.then ((Upd.refl _ _).alloc _)).trans hU9 (fun k hk => .inr (HB.out k (by simpa using hk))))
        clear hR9 hU9 hT9 HR HB HU
        go_wp2
        go_ret
        refine ⟨⟨_, rfl, ?_⟩, HUU.out⟩
        rw [HL.out, List.length_append, List.map_append]; exact HF.out
end Go.Proofs.YtigjingielnaoaaDoor
namespace Go.Proofs.YtigjingielnaoaaDoor
set_option linter.unusedVariables false
set_option linter.unusedSimpArgs false
set_option linter.unusedSectionVars false
open Go.RowKit
set_option linter.unusedVariables false
set_option linter.unusedSimpArgs false

/-- A line that is no event: an empty one, or a remark. -/
def skipL (s : List Nat) : Bool := decide (s = [] ∨ s.head? = some 35)
def badL (s : List Nat) : Bool := !skipL s && !readOk s
/-- A line without its end. -/
def trimL (x : List Nat) : List Nat := if endN x = true then x.take (x.length - 1) else x
theorem trimN_eq (S : ByteArray) : bytesOf (trimN S) = trimL (bytesOf S) := by
  unfold trimN trimL
  split
  · rw [bytesOf_extract]; simp [length_bytesOf]
  · rfl
theorem splitC_none (c : Nat) : ∀ (l : List Nat), ∀ p ∈ splitC c l, ∀ x ∈ p, x ≠ c
  | [], p, h, x, hx => by simp [splitC] at h; subst h; cases hx
  | y :: r, p, h, x, hx => by
    rw [splitC] at h
    by_cases e : y = c
    · rw [if_pos e] at h
      rcases List.mem_cons.1 h with rfl | h
      · cases hx
      · exact splitC_none c r p h x hx
    · rw [if_neg e] at h
      have hm : (splitC c r).headD [] ∈ splitC c r := by
        obtain ⟨a, b, hs⟩ := List.exists_cons_of_ne_nil (splitC_ne c r)
        rw [hs]; simp
      rcases List.mem_cons.1 h with rfl | h
      · rcases List.mem_cons.1 hx with rfl | hx
        · exact e
        · exact splitC_none c r _ hm x hx
      · exact splitC_none c r p (List.mem_of_mem_tail h) x hx
theorem endN_snoc (p : List Nat) : endN (p ++ [10]) = true := by
  unfold endN
  simp
theorem endN_no {p : List Nat} (h : ∀ x ∈ p, x ≠ 10) : endN p = false := by
  unfold endN
  apply decide_eq_false
  intro e
  have : 10 ∈ p := List.mem_of_mem_drop (by rw [e]; simp)
  exact h 10 this rfl
theorem trim_raw (l : List Nat) : (rawP l).map trimL = linesP l := by
  have hn := splitC_none 10 l
  unfold rawP linesP
  rw [List.map_append, List.map_map]
  congr 1
  · conv => rhs; rw [← List.map_id (splitC 10 l).dropLast]
    refine List.map_congr_left fun p hp => ?_
    show trimL (p ++ [10]) = p
    unfold trimL
    rw [if_pos (endN_snoc p)]
    simp
  · split
    · rfl
    · rename_i h
      have hm : (splitC 10 l).getLastD [] ∈ splitC 10 l := by
        have hl : 0 < (splitC 10 l).length := List.length_pos_iff.2 (splitC_ne 10 l)
        rw [lastD_at _ hl]
        exact List.getElem_mem _
      show [trimL _] = [_]
      unfold trimL
      rw [if_neg (by rw [endN_no (hn _ hm)]; decide)]
/-- How many lines a text has. -/
theorem last_empty (l : List Nat) : (splitC 10 l).getLastD [] = [] ↔ l = [] ∨ endN l = true := by
  have hj := joinC_split 10 l
  have hn := splitC_none 10 l
  have hne := splitC_ne 10 l
  generalize splitC 10 l = ps at *
  rcases List.eq_nil_or_concat ps with rfl | ⟨init, q, rfl⟩
  · exact absurd rfl hne
  · rw [List.concat_eq_append] at *
    have hq : (init ++ [q]).getLastD [] = q := by simp
    rw [hq]
    have hqn := hn q (by simp)
    by_cases hi : init = []
    · subst hi
      simp only [List.nil_append, joinC] at hj
      subst hj
      constructor
      · intro h; exact .inl h
      · rintro (h | h)
        · exact h
        · rw [endN_no hqn] at h; cases h
    · rw [joinC_snoc 10 init q hi] at hj
      constructor
      · intro h
        right
        rw [← hj, h]
        exact endN_snoc _
      · rintro (h | h)
        · rw [h] at hj
          have := congrArg List.length hj
          simp at this
        · rw [← hj] at h
          rcases List.eq_nil_or_concat q with rfl | ⟨q', x, rfl⟩
          · rfl
          · exfalso
            rw [List.concat_eq_append] at *
            unfold endN at h
            have h := of_decide_eq_true h
            have hx := hqn x (by simp)
            have e : joinC 10 init ++ 10 :: (q' ++ [x]) = (joinC 10 init ++ 10 :: q') ++ [x] := by simp
            rw [e] at h
            simp at h
            exact hx h
theorem lines_len (l : List Nat) : (linesP l).length = (splitC 10 l).length - 1 + (if l ≠ [] ∧ endN l = false then 1 else 0) := by
  unfold linesP
  rw [List.length_append, List.length_dropLast]
  have h := last_empty l
  by_cases hl : (splitC 10 l).getLastD [] = []
  · rw [if_pos hl, if_neg (by
      rcases h.1 hl with h1 | h1
      · simp [h1]
      · simp [h1])]
    rfl
  · rw [if_neg hl, if_pos (by
      constructor
      · intro e; exact hl (h.2 (.inl e))
      · cases he : endN l with
        | true => exact absurd (h.2 (.inr he)) hl
        | false => rfl)]
    rfl
/-- What Parse answers of lines. -/
def parseP (ls : List (List Nat)) : List (List Nat) × Nat × Nat :=
  if 2000 < ls.length then ([], 0, 4)
  else if ls.findIdx badL < ls.length then ([], ls.findIdx badL + 1, 2)
  else (ls.filter (fun s => !skipL s), 0, 0)
theorem parse_bad {ls pre rest : List (List Nat)} {x : List Nat} (hls : ls = pre ++ x :: rest) (hl : ls.length ≤ 2000) (hp : ∀ s ∈ pre, badL s = false) (hx : badL x = true) : parseP ls = ([], pre.length + 1, 2) := by
  have hf : ls.findIdx badL = pre.length := by
    rw [hls, List.findIdx_append]
    have h1 : ¬ pre.findIdx badL < pre.length := by
      rw [List.findIdx_lt_length]
      rintro ⟨y, hy, h⟩
      rw [hp y hy] at h; cases h
    rw [if_neg h1, List.findIdx_cons, hx]
    simp
  unfold parseP
  rw [if_neg (by omega), hf, if_pos (by rw [hls]; simp)]
theorem parse_ok {ls : List (List Nat)} (hl : ls.length ≤ 2000) (hp : ∀ s ∈ ls, badL s = false) : parseP ls = (ls.filter (fun s => !skipL s), 0, 0) := by
  unfold parseP
  rw [if_neg (by omega), if_neg (by
    rw [List.findIdx_lt_length]
    rintro ⟨y, hy, h⟩
    rw [hp y hy] at h; cases h)]
theorem parse_long {ls : List (List Nat)} (hl : 2000 < ls.length) : parseP ls = ([], 0, 4) := by
  unfold parseP
  rw [if_pos hl]

theorem infoEvt : (Tryd.prog.info? 44).map (fun i => (i.zero, i.size, i.bytes)) = some (some (.agg #[.int .i64 0, .string .empty, .string .empty, .int .i64 0, .int .i64 0, .int .u32 0, .string .empty, .int .i64 0, .slice none 0 0]), 9, 112) := by kernel_rfl
/-- Events in a row, with where their numbers stand. -/
def evCells (M : List (List Nat × Value)) : List Value := M.flatMap fun x => ((readR x.1).at x.2).cells
def EvsAt (B : Nat) (w : World) (v : Value) (L : List (List Nat)) : Prop := ∃ M : List (List Nat × Value), M.map Prod.fst = L ∧ Row w 44 9 v M.length (evCells M) ∧ (∀ k, v.ownBlock = some k → B ≤ k) ∧
  ∀ x ∈ M, Row w 3 1 x.2 (readR x.1).l.length (zsV (readR x.1).l) ∧ ∀ k, x.2.ownBlock = some k → B ≤ k
theorem EvsAt.nil (B : Nat) (w : World) : EvsAt B w (.slice none 0 0) [] := ⟨[], rfl, Row.nil _ _ _, by simp [Value.ownBlock], fun x hx => by cases hx⟩
theorem EvsAt.form {B : Nat} {w : World} {v : Value} {L : List (List Nat)} (h : EvsAt B w v L) : ∃ a cap, v = .slice a L.length cap := by
  obtain ⟨M, rfl, hr, _, _⟩ := h
  obtain ⟨a, cap, e⟩ := hr.form
  exact ⟨a, cap, by rw [List.length_map]; exact e⟩
theorem EvsAt.upd {B : Nat} {w w' : World} {v : Value} {L : List (List Nat)} {fp : List Nat} (h : EvsAt B w v L) (hU : Upd fp w w') (hf : ∀ k ∈ fp, k < B) : EvsAt B w' v L := by
  obtain ⟨M, e, hr, ho, hx⟩ := h
  have key : ∀ {u : Value}, (∀ k, u.ownBlock = some k → B ≤ k) → ∀ k, u.ownBlock = some k → k ∉ fp := fun hu k hk hm => by have := hu k hk; have := hf k hm; omega
  exact ⟨M, e, hr.upd hU (key ho), ho, fun x hxm => ⟨(hx x hxm).1.upd hU (key (hx x hxm).2), (hx x hxm).2⟩⟩
theorem Row.apartS {w : World} {e e' : TypeId} {size size' n n' : Nat} {v v' : Value} {xs xs' : List Value} (h : Row w e size v n xs) (h' : Row w e' size' v' n' xs') (ht : e ≠ e') : ∀ k, v'.ownBlock = some k → k ∉ v.ownBlock.toList := fun k hk hm => by
  have hk2 : v.ownBlock = some k := by simpa using hm
  rcases h.2 with ⟨rfl, _⟩ | ⟨g, cap, cur, rfl, hb, hh, _⟩
  · simp [Value.ownBlock] at hk2
  · rcases h'.2 with ⟨rfl, _⟩ | ⟨g', cap', cur', rfl, hb', hh', _⟩
    · simp [Value.ownBlock] at hk
    · simp [Value.ownBlock] at hk hk2
      subst hk
      subst hk2
      rw [hh] at hh'
      simp at hh'
      exact ht hh'.2
/-- One event more. -/
theorem EvsAt.app {B : Nat} {w w' : World} {v v' u : Value} {M : List (List Nat × Value)} {s : List Nat} {o : Obj}
    (hr : Row w 44 9 v M.length (evCells M)) (ho : ∀ k, v.ownBlock = some k → B ≤ k) (hx : ∀ x ∈ M, Row w 3 1 x.2 (readR x.1).l.length (zsV (readR x.1).l) ∧ ∀ k, x.2.ownBlock = some k → B ≤ k)
    (hu : Row w 3 1 u (readR s).l.length (zsV (readR s).l)) (huo : ∀ k, u.ownBlock = some k → B ≤ k) (hB : B ≤ w.heap.size)
    (hR : Row w' 44 9 v' (M.length + 1) (evCells M ++ ((readR s).at u).cells)) (hU : Upd v.ownBlock.toList (w.alloc o) w') (hT : Later (w.alloc o) v v') : EvsAt B w' v' (M.map Prod.fst ++ [s]) := by
  have hA : Upd [] w (w.alloc o) := (Upd.refl [] w).alloc o
  have keep : ∀ {z : Value} {n : Nat} {xs : List Value}, Row w 3 1 z n xs → Row w' 3 1 z n xs := fun {z n xs} hz => (hz.upd hA (by simp)).upd hU (Row.apartS hr hz (by decide))
  refine ⟨M ++ [(s, u)], by simp, ?_, fun k hk => ?_, fun x hxm => ?_⟩
  · have e : evCells (M ++ [(s, u)]) = evCells M ++ ((readR s).at u).cells := by unfold evCells; simp
    rw [e, List.length_append]
    exact hR
  · rcases hT with e | ⟨g, e, hg⟩
    · exact ho k (by rw [← e]; exact hk)
    · rw [hk] at e; cases e; simp at hg; omega
  · rcases List.mem_append.1 hxm with hxm | hxm
    · exact ⟨keep (hx x hxm).1, (hx x hxm).2⟩
    · simp at hxm
      subst hxm
      exact ⟨keep hu, huo⟩
end Go.Proofs.YtigjingielnaoaaDoor

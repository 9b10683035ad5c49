/- The document's spans of a row of places; two rows compared; the example. -/
import Derived.Test.YtibmhadnfggmlaaExtJ
namespace Go.Proofs.Ytibmhadnfggmlaa
open Go.RowKit Go.Shelf
attribute [local go_sem] Oper.semAt_some

theorem ne_at {l1 l2 : List (Int × Int)} (hl : l1.length = l2.length) (h : ∀ k (h1 : k < l1.length) (h2 : k < l2.length), l1[k] = l2[k]) : l1 = l2 := List.ext_getElem hl (fun k h1 h2 => h k h1 h2)
set_option maxHeartbeats 2000000 in
theorem same_any (v1 v2 : Value) (l1 l2 : List (Int × Int)) (w : World) (h1 : Row w 24 2 v1 l1.length (flat l1)) (h2 : Row w 24 2 v2 l2.length (flat l2)) (hb1 : l1.length ≤ 3000000) (hb2 : l2.length ≤ 3000000) :
    Calls Try.prog 13 #[v1, v2] w fun e w' => e = .returned (.bool (decide (l1 = l2))) ∧ Upd [] w w' := by
  obtain ⟨a1, c1, rfl⟩ := h1.form
  obtain ⟨a2, c2, rfl⟩ := h2.form
  have H1 := Lib.hid h1
  have H2 := Lib.hid h2
  clear h1 h2
  by_cases hl : l1.length = l2.length
  · have HL := Lib.hid hl
    have hlz : decide ((l1.length : Int) ≠ (l2.length : Int)) = false := by simp [hl]
    generalize hn2 : l2.length = n2 at *
    subst hl
    have HN2 := Lib.hid hn2
    clear hn2 hlz
    go_enter Try.func13, Try.ntmps13
    go_wp2
    go_loopg [13] l1.length (fun g s13 wr => ∃ k : Nat, k ≤ l1.length ∧ g = l1.length - k ∧ s13 = .int .i64 (k : Nat) ∧ Hid (l1.take k = l2.take k) ∧ Upd [] w wr)
    case atStart => exact ⟨0, by omega, rfl, rfl, Lib.hid rfl, Upd.refl _ _⟩
    case round =>
      obtain ⟨k, hk, rfl, rfl, HT, hUw⟩ := hrel
      by_cases hc : k < l1.length
      · have hcz : (k : Int) < (l1.length : Int) := by omega
        have hc2 : k < l2.length := by rw [HN2.out]; exact hc
        obtain ⟨g1, d1, e1, _, _⟩ := H1.out.form' (by omega)
        obtain ⟨g2, d2, e2, _, _⟩ := H2.out.form' (by omega)
        cases e1
        cases e2
        obtain ⟨p0, p1⟩ := flat_get l1 k hc
        obtain ⟨q0, q1⟩ := flat_get l2 k hc2
        have r0 := (H1.out.upd hUw (by simp)).cell (k * 2) p0
        have r1 := (H1.out.upd hUw (by simp)).cell (k * 2 + 1) p1
        have t0 := (H2.out.upd hUw (by simp)).cell (k * 2) q0
        have t1 := (H2.out.upd hUw (by simp)).cell (k * 2 + 1) q1
        have HE : Hid (l1[k] = l2[k] → l1.take (k + 1) = l2.take (k + 1)) := Lib.hid (fun e => by
          rw [List.take_succ_eq_append_getElem hc, List.take_succ_eq_append_getElem hc2, HT.out, e])
        have HF : Hid (l1[k] ≠ l2[k] → l1 ≠ l2) := Lib.hid (fun e e' => e (by subst e'; rfl))
        clear p0 p1 q0 q1 HT
        generalize l1[k] = x at *
        generalize l2[k] = y at *
        obtain ⟨xa, xb⟩ := x
        obtain ⟨ya, yb⟩ := y
        dsimp only at *
        have ways : (xa = ya ∧ xb = yb) ∨ xa ≠ ya ∨ (xa = ya ∧ xb ≠ yb) := by omega
        rcases ways with ⟨rfl, rfl⟩ | hne | ⟨rfl, hne⟩
        · go_wp2_with fail
          go_quiet (fail)
          go_wp2
          go_roundg (l1.length - (k + 1))
          all_goals first
            | omega
            | exact ⟨k + 1, by omega, rfl, by go_num, Lib.hid (HE.out (by first | rfl | trivial)), hUw.drewN _⟩
        · have e1 : (xa == ya) = false := by simp [hne]
          have e2 : (xa != ya) = true := by simp [hne]
          have HNE := Lib.hid hne
          clear hne
          go_wp2_with fail
          go_quiet (fail)
          go_wp2
          go_ret
          refine ⟨?_, ?_⟩
          · rw [decide_eq_false (HF.out (fun e => HNE.out (by injection e)))]; rfl
          · exact hUw.drewN _
        · have e1 : (xb == yb) = false := by simp [hne]
          have e2 : (xb != yb) = true := by simp [hne]
          have HNE := Lib.hid hne
          clear hne
          go_wp2_with fail
          go_quiet (fail)
          go_wp2
          go_ret
          refine ⟨?_, ?_⟩
          · rw [decide_eq_false (HF.out (fun e => HNE.out (by injection e)))]; rfl
          · exact hUw.drewN _
      · obtain rfl : k = l1.length := by omega
        have e : l1 = l2 := by
          have := HT.out
          rw [List.take_length, ← HN2.out, List.take_length] at this; exact this
        have HEE := Lib.hid e
        clear e
        go_wp2
        go_ret
        exact ⟨by rw [decide_eq_true HEE.out]; rfl, hUw⟩
  · have hne : l1 ≠ l2 := fun e => hl (by rw [e])
    have HNE := Lib.hid hne
    have e1 : ((l1.length : Int) == (l2.length : Int)) = false := by simp; omega
    have e2 : ((l1.length : Int) != (l2.length : Int)) = true := by simp; omega
    have e3 : (l1.length == l2.length) = false := by simp; omega
    have e4 : (l1.length != l2.length) = true := by simp; omega
    clear hne
    go_enter Try.func13, Try.ntmps13
    go_wp2
    go_ret
    exact ⟨by rw [decide_eq_false HNE.out]; rfl, Upd.refl _ _⟩
def spAt (bs : List Bool) (k : Nat) : List (Int × Int) := ((bs.take k).foldl spStep ([], false, 0)).1
theorem spAt_all (bs : List Bool) : spAt bs bs.length = spansOf bs := by unfold spAt spansOf; rw [List.take_length]
theorem spStep_fst (s : List (Int × Int) × Bool × Int) (b : Bool) : (spStep s b).1 = if b then (if s.2.1 then s.1.dropLast ++ [((s.1.getLast?.getD (0, 0)).1, s.2.2 + 1)] else s.1 ++ [(s.2.2, s.2.2 + 1)]) else s.1 := rfl
theorem spAt_succ (bs : List Bool) (k : Nat) (h : k < bs.length) (hb : (bs.length : Int) < BIG) : spAt bs (k + 1) =
    if bs[k] then (if (bs.take k).getLast?.getD false then (spAt bs k).dropLast ++ [(((spAt bs k).getLast?.getD (0, 0)).1, (k : Int) + 1)] else spAt bs k ++ [((k : Int), (k : Int) + 1)]) else spAt bs k := by
  have i := spInv_all bs hb k (by omega)
  have e1 := i.at_
  have e2 := i.last
  rw [List.length_take, Nat.min_eq_left (by omega)] at e1
  unfold spAt
  rw [List.take_succ_eq_append_getElem h, List.foldl_append, List.foldl_cons, List.foldl_nil, spStep_fst, e2, e1]
theorem spAt_end (bs : List Bool) (k : Nat) (h : k ≤ bs.length) (hb : (bs.length : Int) < BIG) (hl : (bs.take k).getLast?.getD false = true) : ∃ a y, spAt bs k = a ++ [(y, (k : Int))] := by
  have i := spInv_all bs hb k h
  have e1 := i.at_
  rw [List.length_take, Nat.min_eq_left (by omega)] at e1
  obtain ⟨a, y, e⟩ := i.end_ (by rw [i.last]; exact hl)
  exact ⟨a, y, by unfold spAt; rw [e, e1]⟩
theorem spAt_len (bs : List Bool) (hb : (bs.length : Int) < BIG) : ∀ k, k ≤ bs.length → (spAt bs k).length ≤ k
  | 0, _ => by simp [spAt]
  | k + 1, h => by
    have ih := spAt_len bs hb k (by omega)
    rw [spAt_succ bs k (by omega) hb]
    split
    · split
      · rename_i h1 h2
        obtain ⟨a, y, e⟩ := spAt_end bs k (by omega) hb h2
        rw [e] at ih ⊢
        simp at ih ⊢; omega
      · simp; omega
    · omega
theorem last_take (bs : List Bool) (j : Nat) (h : j < bs.length) : (bs.take (j + 1)).getLast?.getD false = bs[j] := by
  rw [List.take_succ_eq_append_getElem h, List.getLast?_concat]; rfl
theorem flat_set (a : List (Int × Int)) (y z u : Int) : (flat (a ++ [(y, z)])).set (a.length * 2 + 1) (.int .i64 u) = flat (a ++ [(y, u)]) := by
  rw [flat_append, flat_append, List.set_append_right _ _ (by rw [flat_len]; omega), flat_len]
  have e : a.length * 2 + 1 - a.length * 2 = 1 := by omega
  rw [e]
  rfl
set_option maxRecDepth 100000 in
set_option maxHeartbeats 4000000 in
theorem rspans_any (g0 : Nat) (bs : List Bool) (w : World) (hB : Row w 4 1 (.slice (some ⟨g0, 0, none⟩) bs.length bs.length) bs.length (bs.map Value.bool)) (hl : bs.length ≤ 100000) :
    Calls Try.prog 11 #[.slice (some ⟨g0, 0, none⟩) bs.length bs.length] w fun e w' =>
      ∃ v, e = .returned v ∧ Row w' 24 2 v (spansOf bs).length (flat (spansOf bs)) ∧ Upd [] w w' ∧ (∀ g, v.ownBlock = some g → w.heap.size ≤ g) := by
  obtain ⟨i0, hi, hz0, hz1, hz2⟩ := info_parts infoSpan
  have hbig : (bs.length : Int) < BIG := by unfold BIG; omega
  have HG := Lib.hid hbig
  have HB := Lib.hid hB
  clear hB hbig
  go_enter Try.func11, Try.ntmps11
  go_wp2
  go_loopg [3, 8] bs.length (fun g s3 s8 wr => ∃ k : Nat, ∃ v r, k ≤ bs.length ∧ g = bs.length - k ∧ s8 = .int .i64 (k : Nat) ∧ s3 = v ∧ Hid (r = spAt bs k) ∧ Row wr 24 2 v r.length (flat r) ∧ Upd [] w wr ∧ (∀ g, v.ownBlock = some g → w.heap.size ≤ g))
  case atStart => exact ⟨0, _, [], by omega, rfl, rfl, rfl, Lib.hid rfl, Row.nil _ _ _, Upd.refl _ _, by simp [Value.ownBlock]⟩
  case round =>
    obtain ⟨k, v, r, hk, rfl, rfl, rfl, HR, hRow, hUw, hg⟩ := hrel
    by_cases hc : k < bs.length
    · have hcz : (k : Int) < (bs.length : Int) := by omega
      have cb := (HB.out.upd hUw (by simp)).cell k (u := .bool bs[k]) (by simp [hc])
      have hrl : r.length ≤ k := by rw [HR.out]; exact spAt_len bs HG.out k hk
      have HS := Lib.hid (spAt_succ bs k hc HG.out)
      obtain ⟨ra, rc, rfl⟩ := hRow.form
      have HRow := Lib.hid hRow
      have HGN := Lib.hid hg
      clear hRow hg
      have keep : bs[k] = false → ∃ v' r', Hid (r' = spAt bs (k + 1)) ∧ r' = r ∧ v' = Value.slice ra r.length rc := fun h => ⟨_, r, Lib.hid (by rw [HS.out, if_neg (by simp [h]), HR.out]), rfl, rfl⟩
      have KEEP := Lib.hid keep
      clear keep
      by_cases hb : bs[k] = true
      · by_cases hp : (bs.take k).getLast?.getD false = true
        · obtain ⟨a, y, e⟩ := spAt_end bs k hk HG.out hp
          have hr2 : a ++ [(y, (k : Int) + 1)] = spAt bs (k + 1) := by
            rw [HS.out, if_pos hb, if_pos hp, e]; simp
          have hra : r = a ++ [(y, (k : Int))] := by rw [HR.out, e]
          have hk0 : 0 < k := by
            rcases Nat.eq_zero_or_pos k with h | h
            · subst h; simp at hp
            · exact h
          have hpj : bs[k - 1] = true := by
            have := last_take bs (k - 1) (by omega)
            rw [show k - 1 + 1 = k by omega] at this
            rw [← this]; exact hp
          have cp := (HB.out.upd hUw (by simp)).cell (k - 1) (u := .bool bs[k - 1]) (by rw [List.getElem?_map, List.getElem?_eq_getElem (by omega)]; rfl)
          rw [hpj] at cp
          rw [hb] at cb
          have hki : ((k : Int) - 1).toNat = k - 1 := by omega
          have hk1 : (1 : Int) ≤ (k : Int) := by omega
          have hkp : (0 : Int) < (k : Int) := by omega
          subst hra
          have hrow := HRow.out
          rw [show (a ++ [(y, (k : Int))]).length = a.length + 1 by simp] at hrow hrl
          obtain ⟨g1, d1, e1, hg1, hd1⟩ := hrow.form' (by omega)
          have hgn := HGN.out
          rw [show (a ++ [(y, (k : Int))]).length = a.length + 1 by simp] at hgn ⊢
          cases e1
          have hg2 := hgn g1 rfl
          have HGN2 := Lib.hid hgn
          have hst := hrow.set (a.length * 2 + 1) (.int .i64 ((k : Int) + 1))
          rw [flat_set] at hst
          have q0 := hrow.cell (a.length * 2 + 1) (u := .int .i64 (k : Int)) (by
            have := (flat_get (a ++ [(y, (k : Int))]) a.length (by simp)).2
            simpa using this)
          have q1 := hrow.frz (a.length * 2 + 1)
          have HR2 := Lib.hid hr2
          have HST := Lib.hid hst
          clear hr2 hst e hrow hgn HGN KEEP HS HR HRow hb hp hpj
          go_wp2
          go_roundg (bs.length - (k + 1))
          all_goals first
            | omega
            | (refine ⟨k + 1, _, a ++ [(y, (k : Int) + 1)], by omega, rfl, by go_num, rfl, HR2, ?_, hUw.setCell (.inr hg2) _, HGN2.out⟩
               rw [show (a ++ [(y, (k : Int) + 1)]).length = a.length + 1 by simp]
               exact HST.out)
        · have hr2 : r ++ [((k : Int), (k : Int) + 1)] = spAt bs (k + 1) := by
            rw [HS.out, if_pos hb, if_neg hp, HR.out]
          have HR2 := Lib.hid hr2
          rw [hb] at cb
          have fin : ∀ v9 w9 w8, Row w9 24 2 v9 (r.length + 1) (flat r ++ [.int .i64 (k : Int), .int .i64 ((k : Int) + 1)]) → Upd [] wr w8 → Upd (Value.slice ra r.length rc).ownBlock.toList w8 w9 → Later w8 (Value.slice ra r.length rc) v9 →
              ∃ k' : Nat, ∃ v' r', k' ≤ bs.length ∧ bs.length - (k + 1) = bs.length - k' ∧ Value.int .i64 ((k : Int) + 1) = .int .i64 (k' : Nat) ∧ v9 = v' ∧ Hid (r' = spAt bs k') ∧ Row w9 24 2 v' r'.length (flat r') ∧ Upd [] w w9 ∧ (∀ g, v'.ownBlock = some g → w.heap.size ≤ g) := fun v9 w9 w8 hR9 hU8 hU9 hT9 =>
            ⟨k + 1, v9, r ++ [((k : Int), (k : Int) + 1)], by omega, rfl, by go_num, rfl, HR2, by rw [flat_append, List.length_append]; exact hR9, (hUw.then hU8).trans hU9 (fun q hq => .inr (HGN.out q (by simpa using hq))), fun g hg => by
              rcases hT9 with e | ⟨g', e1, e2⟩
              · exact HGN.out g (by rw [← e]; exact hg)
              · rw [hg] at e1; simp at e1; have := hUw.size; have := hU8.size; omega⟩
          have FIN := Lib.hid fin
          clear fin hr2 HR2 KEEP HS HR hb
          by_cases hk0 : k = 0
          · subst hk0
            clear hp
            go_wp2_with (at_builtin; refine wpList_app _ rfl _ _ 34 rfl 24 i0 _ 2 16 Try.underlying34 hi hz0 hz1 hz2 rfl (by omega) (.slice ra r.length rc) r.length _ rfl (HRow.out.alloc _) ⟨wr.heap.size, 0, none⟩ 1 1 [_, _] rfl rfl (World.news_of_block (cs := #[_, _]) (t := 24) (fr := (0, 0)) (heap_alloc_new _ _)) (by simp [Value.oneCell']) (by unfold maxLen; omega) (by omega) ?_)
            rintro v9 w9 hR9 hU9 hT9
            obtain ⟨va9, vc9, rfl⟩ := hR9.form
            go_wp2
            go_roundg (bs.length - (0 + 1))
            all_goals first
              | omega
              | exact FIN.out _ _ _ hR9 ((Upd.refl _ _).alloc _) hU9 hT9
          · have hpf : bs[k - 1] = false := by
              have := last_take bs (k - 1) (by omega)
              rw [show k - 1 + 1 = k by omega] at this
              rw [← this]; simpa using hp
            have cp := (HB.out.upd hUw (by simp)).cell (k - 1) (u := .bool bs[k - 1]) (by rw [List.getElem?_map, List.getElem?_eq_getElem (by omega)]; rfl)
            rw [hpf] at cp
            have hki : ((k : Int) - 1).toNat = k - 1 := by omega
            have hk1 : (1 : Int) ≤ (k : Int) := by omega
            have hkp : (0 : Int) < (k : Int) := by omega
            have hk0' : 0 < k := by omega
            clear hp hpf hk0
            go_wp2_with (at_builtin; refine wpList_app _ rfl _ _ 34 rfl 24 i0 _ 2 16 Try.underlying34 hi hz0 hz1 hz2 rfl (by omega) (.slice ra r.length rc) r.length _ rfl (HRow.out.alloc _) ⟨wr.heap.size, 0, none⟩ 1 1 [_, _] rfl rfl (World.news_of_block (cs := #[_, _]) (t := 24) (fr := (0, 0)) (heap_alloc_new _ _)) (by simp [Value.oneCell']) (by unfold maxLen; omega) (by omega) ?_)
            rintro v9 w9 hR9 hU9 hT9
            obtain ⟨va9, vc9, rfl⟩ := hR9.form
            go_wp2
            go_roundg (bs.length - (k + 1))
            all_goals first
              | omega
              | exact FIN.out _ _ _ hR9 ((Upd.refl _ _).alloc _) hU9 hT9
      · have hbf : bs[k] = false := by simpa using hb
        obtain ⟨v', r', HR', rfl, rfl⟩ := KEEP.out hbf
        rw [hbf] at cb
        clear hb hbf KEEP HS HR
        go_wp2
        go_roundg (bs.length - (k + 1))
        all_goals first
          | omega
          | exact ⟨k + 1, _, r', by omega, rfl, by go_num, rfl, HR', HRow.out, hUw, HGN.out⟩
    · obtain rfl : k = bs.length := by omega
      have e := HR.out
      rw [spAt_all] at e
      subst e
      obtain ⟨ra, rc, rfl⟩ := hRow.form
      go_wp2
      go_ret
      exact ⟨_, rfl, hRow, hUw, hg⟩
end Go.Proofs.Ytibmhadnfggmlaa

/- slices.Grow, Concat at the element type Span. -/
import Derived.Test.YtibmhadnfggmlaaExtD
import Derived.Shelf.Spec.SlicesGrow
import Derived.Test.YtibmhadnfggmlaaOpen
namespace Go.Proofs.Ytibmhadnfggmlaa
open Go.RowKit Go.Shelf
attribute [local go_sem] Oper.semAt_some

/-- append of a whole row (nil let in) onto a row of the call's own. -/
theorem run_appRow {P : Program} (w : World) (t ty e : TypeId) (i : TypeInfo) (z : Value) (size bytes : Nat) (ht : P.underlying t = some (.slice e)) (hi : P.info? e = some i) (hz : i.zero = some z)
    (hsize : i.size = size) (hby : i.bytes = bytes) (hzs : z.cells.size = size) (hsz : 0 < size)
    (v : Value) (n : Nat) (xs : List Value) (hown : Row w e size v n xs) (v2 : Value) (m : Nat) (ys : List Value) (hsrc : Row w e size v2 m ys) (h1 : ∀ u ∈ ys, u.oneCell' = true)
    (h63 : n + m ≤ maxLen) (hbytes : (n + m) * bytes ≤ 140737488355328) :
    ∃ v' w', (Builtin.append_ #[t, t] ty #[v, v2]).run P w = .ok v' w' ∧ Row w' e size v' (n + m) (xs ++ ys) ∧ Upd v.ownBlock.toList w w' ∧ Later w v v' := by
  rcases hsrc.2 with ⟨rfl, rfl⟩ | ⟨g, cap, cur, rfl, hb, hg, hc, hm, hcs, htk⟩
  · have hy : ys = [] := List.eq_nil_of_length_eq_zero (by simpa using hsrc.1)
    subst hy
    refine ⟨v, w, ?_, by simpa using hown, Upd.refl _ _, .refl _ _⟩
    rcases hown.2 with ⟨rfl, rfl⟩ | ⟨g, cap, cur, rfl, _, _, hnc, _⟩
    · simp [Builtin.append_, run_underlying ht, sizeOf, typeInfo, hi, Builtin.lenOf, Builtin.firstCells]
    · simp [Builtin.append_, run_underlying ht, sizeOf, typeInfo, hi, Builtin.lenOf, Builtin.firstCells, hnc, storeCells]
  · exact run_app w t ty e i z size bytes ht hi hz hsize hby hzs hsz v n xs hown ⟨g, 0, none⟩ m cap ys hsrc.1 (fun j u hu => by rw [add_flat, Nat.zero_add]; exact hsrc.cell j hu) h1 h63 hbytes

theorem infoSpan' : (Try.prog.info? 24).map (fun i => (i.zero, i.size, i.bytes)) = some (some (.agg #[.int .i64 0, .int .i64 0]), 2, 16) := by kernel_rfl
theorem ones (l : List (Int × Int)) : ∀ u ∈ flat l, u.oneCell' = true := by
  intro u hu
  unfold flat at hu
  obtain ⟨x, _, hx⟩ := List.mem_flatMap.1 hu
  simp [enc2] at hx
  rcases hx with rfl | rfl <;> rfl
shelf_lay_g Lays8.n4 Nm8 4 at Try 40 as growS
theorem grow_nil (n : Nat) (w : World) (hn : n ≤ 3000000) : Calls Try.prog 40 #[.slice none 0 0, .int .i64 n] w fun e w' =>
    ∃ v, e = .returned v ∧ Row w' 24 2 v 0 [] ∧ Upd [] w w' ∧ (∀ g, v.ownBlock = some g → w.heap.size ≤ g) := by
  obtain ⟨i0, hi, hz0, hz1, hz2⟩ := info_parts infoSpan'
  by_cases h : n = 0
  · subst h
    refine Calls.mono (f := 40) (Any8.slices_Grow_room growS none 0 0 0 w (by omega) (by omega) (by omega) (by omega)) ?_
    rintro e w' ⟨rfl, rfl⟩
    exact ⟨_, rfl, Row.nil _ _ _, Upd.refl _ _, by simp [Value.ownBlock]⟩
  · refine Calls.mono (f := 40) (Any8.slices_Grow_grow growS i0 _ hi hz0 (by omega) none 0 0 n [] w (by omega) (by omega) (by rw [hz2]; omega) (by omega) (by simp) (fun _ => rfl) (fun a h => by cases h)) ?_
    rintro e w' ⟨rfl, rfl⟩
    have hcm := grownCap_le_maxLen w (0 + n) 0 24 (by unfold maxLen; omega)
    have hge := grownCap_ge w (0 + n) 0 24
    refine ⟨_, rfl, ⟨rfl, .inr ⟨w.heap.size, _, _, rfl, Nat.zero_le _, heap_alloc_new w.drew _, Nat.zero_le _, hcm, ?_, by simp⟩⟩, ((Upd.refl _ _).drew).alloc _, by simp [Value.ownBlock]⟩
    simp only [Array.size_append, List.size_toArray, size_zeroCells, List.length_nil]
    have e : (Value.agg #[.int .i64 0, .int .i64 0]).cells.size = 2 := rfl
    rw [e]
    show 0 + (0 + n - 0) * 2 + (grownCap w (0 + n) 0 24 - (0 + n)) * 2 = grownCap w (0 + n) 0 24 * 2
    omega
def tot (ls : List (Value × List (Int × Int))) : Nat := (ls.map (·.2.length)).sum
theorem tot_succ (ls : List (Value × List (Int × Int))) (k : Nat) (h : k < ls.length) : tot (ls.take (k + 1)) = tot (ls.take k) + ls[k].2.length := by
  unfold tot; rw [List.take_succ_eq_append_getElem h, List.map_append, List.sum_append_nat]; rfl
theorem tot_le (ls : List (Value × List (Int × Int))) (k : Nat) : tot (ls.take k) ≤ tot ls := by
  conv => rhs; rw [← List.take_append_drop k ls]
  unfold tot; rw [List.map_append, List.sum_append_nat]; omega
def cat (ls : List (Value × List (Int × Int))) : List (Int × Int) := ls.flatMap (·.2)
theorem cat_len (ls : List (Value × List (Int × Int))) : (cat ls).length = tot ls := by unfold tot cat; rw [List.length_flatMap]
theorem cat_succ (ls : List (Value × List (Int × Int))) (k : Nat) (h : k < ls.length) : cat (ls.take (k + 1)) = cat (ls.take k) ++ ls[k].2 := by
  unfold cat; rw [List.take_succ_eq_append_getElem h, List.flatMap_append]; simp
set_option maxRecDepth 100000 in
set_option maxHeartbeats 1000000 in
theorem concat_any (Bl : Nat) (ls : List (Value × List (Int × Int))) (w : World) (hB : Blk w Bl (ls.map (·.1)) 34) (hR : ∀ q ∈ ls, Row w 24 2 q.1 q.2.length (flat q.2)) (ht : tot ls ≤ 3000000) (hk : ls.length ≤ 1000) :
    Calls Try.prog 30 #[.slice (some ⟨Bl, 0, none⟩) ls.length ls.length] w fun e w' =>
      ∃ v, e = .returned v ∧ Row w' 24 2 v (cat ls).length (flat (cat ls)) ∧ Upd [] w w' ∧ (∀ g, v.ownBlock = some g → w.heap.size ≤ g) := by
  obtain ⟨i0, hi, hz0, hz1, hz2⟩ := info_parts infoSpan'
  have HB := Lib.hid hB
  have HR := Lib.hid hR
  clear hB hR
  go_enter Try.func30, Try.ntmps30
  go_wp2
  go_loopg [3, 11] ls.length (fun g s3 s11 wr => ∃ k, k ≤ ls.length ∧ g = ls.length - k ∧ s3 = .int .i64 (tot (ls.take k) : Nat) ∧ s11 = .int .i64 (k : Nat) ∧ w = wr)
  case atStart => exact ⟨0, by omega, rfl, rfl, rfl, rfl⟩
  case round =>
    obtain ⟨k, hkl, rfl, rfl, rfl, rfl⟩ := hrel
    have hle := tot_le ls k
    by_cases hc : k < ls.length
    · have hcz : (k : Int) < (ls.length : Int) := by omega
      have hv : (ls.map (·.1))[k]? = some ls[k].1 := by simp [hc]
      have c0 := HB.out.cell k hv
      obtain ⟨va, vc, hvf⟩ := (HR.out _ (List.getElem_mem hc)).form
      rw [hvf] at c0
      have hts := tot_succ ls k hc
      have hle2 := tot_le ls (k + 1)
      have HT := Lib.hid hts
      have hln : ls[k].2.length ≤ 3000000 := by omega
      clear hts hv hvf
      generalize ls[k].2.length = m at *
      have hle3 : tot (ls.take k) + m ≤ 3000000 := by rw [← HT.out]; omega
      clear hle2
      go_wp2
      all_goals go_roundg (ls.length - (k + 1))
      all_goals first
        | omega
        | exact ⟨k + 1, by omega, rfl, by rw [HT.out]; go_num, by go_num, rfl⟩
    · obtain rfl : k = ls.length := by omega
      go_wp2_with fail
      refine (grow_nil (tot ls) w ht).mono ?_
      rintro e w1 ⟨v1, rfl, hR1, hU1, hg1⟩
      obtain ⟨va1, vc1, rfl⟩ := hR1.form
      have HR1 := Lib.hid hR1
      clear hR1
      go_wp2
      go_loopg [6, 27] ls.length (fun g s6 s27 wr => ∃ k v r, k ≤ ls.length ∧ g = ls.length - k ∧ s6 = v ∧ s27 = .int .i64 (k : Nat) ∧ Hid (r = cat (ls.take k)) ∧
        Row wr 24 2 v r.length (flat r) ∧ Upd [] w wr ∧ (∀ g, v.ownBlock = some g → w.heap.size ≤ g))
      case atStart => exact ⟨0, _, [], by omega, rfl, rfl, rfl, Lib.hid rfl, HR1.out, hU1, hg1⟩
      case round =>
        obtain ⟨k, v, r, hkl, rfl, rfl, rfl, HRr, hRk, hUk, hgk⟩ := hrel
        by_cases hc : k < ls.length
        · have hcz : (k : Int) < (ls.length : Int) := by omega
          have hv : (ls.map (·.1))[k]? = some ls[k].1 := by simp [hc]
          have c0 := (HB.out.upd hUk (by simp)).cell k hv
          have hsr := HR.out _ (List.getElem_mem hc)
          have hsr' := hsr.upd hUk (by simp)
          obtain ⟨va, vc, hvf⟩ := hsr.form
          obtain ⟨va2, vc2, rfl⟩ := hRk.form
          have hts := tot_succ ls k hc
          have hle2 := tot_le ls (k + 1)
          have hb2 : r.length + ls[k].2.length ≤ 3000000 := by rw [HRr.out, cat_len]; omega
          obtain ⟨v', w', hrun, hR', hU', hL'⟩ := run_appRow (P := Try.prog) wr 34 34 24 i0 _ 2 16 Try.underlying34 hi hz0 hz1 hz2 rfl (by omega) _ _ _ hRk ls[k].1 _ _ hsr' (ones _) (by unfold maxLen; omega) (by omega)
          rw [hvf] at c0 hrun
          obtain ⟨va3, vc3, rfl⟩ := hR'.form
          have HRUN := Lib.hid hrun
          have hr2 : r ++ ls[k].2 = cat (ls.take (k + 1)) := by rw [HRr.out, cat_succ ls k hc]
          have HR2 := Lib.hid hr2
          clear hr2
          have hrl : r.length + ls[k].2.length = (r ++ ls[k].2).length := by rw [List.length_append]
          rw [← flat_append] at hR'
          have HR' := Lib.hid hR'
          clear hv hvf hts hle2 hb2 hrun hrl hR' hsr hsr' hRk
          go_wp2_with (at_builtin; refine Lib.wpList_append_run _ rfl _ _ _ _ rfl _ _ rfl rfl _ _ HRUN.out ?_)
          all_goals go_roundg (ls.length - (k + 1))
          all_goals first
            | omega
            | (refine ⟨k + 1, _, r ++ ls[k].2, by omega, rfl, rfl, by go_num, HR2, ?_, hUk.trans hU' (fun q hq => .inr (hgk q (by simpa using hq))), fun g hg => ?_⟩
               · rw [List.length_append]
                 exact HR'.out
               · rcases hL' with e | ⟨g', e1, e2⟩
                 · exact hgk g (by rw [← e]; exact hg)
                 · rw [hg] at e1; simp at e1; have := hUk.size; omega)
        · obtain rfl : k = ls.length := by omega
          have e : r = cat ls := by rw [HRr.out, List.take_length]
          subst e
          obtain ⟨va2, vc2, rfl⟩ := hRk.form
          go_wp2
          go_ret
          exact ⟨_, rfl, hRk, hUk, hgk⟩
end Go.Proofs.Ytibmhadnfggmlaa

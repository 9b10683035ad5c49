/- lens.Fixed: its walk. -/
import Derived.Test.YtdehkaknbmbieaaQAX
namespace Go.Proofs.Ytdehkaknbmbieaa
set_option linter.unusedVariables false
set_option linter.unusedSimpArgs false
set_option linter.unusedSectionVars false
open Go.RowKit
set_option linter.unusedVariables false

def fixRows : List (Nat × Nat) := [(144, 8), (112, 9), (24, 7), (8, 8)]
def fixP (i : Nat) : List Nat := (fixRows.take i).flatMap fun r => List.replicate r.1 r.2
def fixCells : List Value := [.int .i64 144, .int .i64 8, .int .i64 112, .int .i64 9, .int .i64 24, .int .i64 7, .int .i64 8, .int .i64 8]
theorem fixP_len (i : Nat) : (fixP i).length ≤ 288 := by
  unfold fixP fixRows
  rcases i with _ | _ | _ | _ | i <;> simp only [List.take_zero, List.take_succ_cons, List.take_nil, List.flatMap_cons, List.flatMap_nil, List.length_append, List.length_replicate, List.length_nil, Nat.zero_add] <;> omega
theorem fixP_step (i : Nat) (h : i < 4) : fixP (i + 1) = fixP i ++ List.replicate (fixRows.getD i (0, 0)).1 (fixRows.getD i (0, 0)).2 := by
  have ht : fixRows.take (i + 1) = fixRows.take i ++ [fixRows.getD i (0, 0)] := by
    rw [List.take_add_one, List.getD_eq_getElem?_getD, List.getElem?_eq_getElem (show i < fixRows.length from h)]
    rfl
  unfold fixP
  rw [ht, List.flatMap_append]
  simp only [List.flatMap_cons, List.flatMap_nil, List.append_nil]
def FixRel (w wr : World) (b : Nat) (v : Value) (i : Nat) : Prop :=
  Row wr 3 1 v (fixP i).length (i64s (fixP i)) ∧ Upd [] w wr ∧ Blk wr b fixCells 93 ∧ v.ownBlock ≠ some b ∧ ∀ k, v.ownBlock = some k → w.heap.size ≤ k

set_option maxRecDepth 100000 in
set_option maxHeartbeats 3200000 in
theorem fixed_any (w : World) : Calls Try.prog 18 #[] w fun e w' => ∃ g1 c1 g2, e = .returned (.tuple #[.slice (some ⟨g1, 0, none⟩) 288 c1, .slice (some ⟨g2, 0, none⟩) 32 32]) ∧
    Row w' 3 1 (.slice (some ⟨g1, 0, none⟩) 288 c1) 288 (i64s (fixP 4)) ∧ Row w' 3 1 (.slice (some ⟨g2, 0, none⟩) 32 32) 32 (i64s (List.replicate 32 5)) ∧ Upd [] w w' ∧ w.heap.size ≤ g1 ∧ w.heap.size ≤ g2 := by
  obtain ⟨i0, hi0, hz0, hz1, hz2⟩ := info_parts infoInt
  go_enter Try.func18, Try.ntmps18
  go_wp2
  go_loopg [0, 10] 4 (fun g s0 s10 wr => ∃ i, i ≤ 4 ∧ g = 4 - i ∧ s10 = .int .i64 (i : Nat) ∧ FixRel w wr w.heap.size s0 i)
  case atStart => exact ⟨0, by omega, rfl, rfl, Row.nil _ _ _, (Upd.refl _ _).alloc _, Blk.new _ _ _, by simp [Value.ownBlock], by simp [Value.ownBlock]⟩
  case round =>
    obtain ⟨i, hi, rfl, rfl, hRow, hU, hB, hne, hnew⟩ := hrel
    by_cases hc : i < 4
    · have hcz : (i : Int) < 4 := by omega
      obtain ⟨r, hr⟩ : ∃ r, r = fixRows.getD i (0, 0) := ⟨_, rfl⟩
      have hst := fixP_step i hc
      rw [← hr] at hst
      have d0 : wr.cell? ⟨w.heap.size, i * 2, none⟩ = some (.int .i64 (r.1 : Nat)) := hB.cell (i * 2) (by rw [hr]; rcases i with _ | _ | _ | _ | i <;> first | rfl | omega)
      have d1 : wr.cell? ⟨w.heap.size, i * 2 + 1, none⟩ = some (.int .i64 (r.2 : Nat)) := hB.cell (i * 2 + 1) (by rw [hr]; rcases i with _ | _ | _ | _ | i <;> first | rfl | omega)
      have hr1 : 1 ≤ r.1 ∧ r.1 ≤ 144 ∧ r.2 ≤ 15 := by rw [hr]; rcases i with _ | _ | _ | _ | i <;> first | decide | omega
      have hlen := fixP_len i
      obtain ⟨n, x⟩ := r
      simp only at d0 d1 hr1 hst
      generalize fixP i = L at *
      clear hr
      go_wp2_with fail
      have hU2 : Upd [] wr ((wr.alloc (Obj.cells #[.int .i64 (n : Nat), .int .i64 (x : Nat)] 93)).alloc (Obj.cells #[.int .i64 (x : Nat)] 3)) := ((Upd.refl [] wr).alloc _).alloc _
      have hcc : ((wr.alloc (Obj.cells #[.int .i64 (n : Nat), .int .i64 (x : Nat)] 93)).alloc (Obj.cells #[.int .i64 (x : Nat)] 3)).cell? ⟨wr.heap.size + 1, 0, none⟩ = some (.int .i64 (x : Nat)) := by
        have h := (Blk.new (wr.alloc (Obj.cells #[.int .i64 (n : Nat), .int .i64 (x : Nat)] 93)) [.int .i64 (x : Nat)] 3).cell 0 rfl
        rw [World.size_alloc] at h
        exact h
      generalize ((wr.alloc (Obj.cells #[.int .i64 (n : Nat), .int .i64 (x : Nat)] 93)).alloc (Obj.cells #[.int .i64 (x : Nat)] 3)) = w2 at *
      refine (repeat_one (wr.heap.size + 1) 0 1 n x w2 hcc hr1.1 (by omega)).mono ?_
      rintro e w5 ⟨rfl, hR5, hU5, hs5⟩
      have hRow5 := (hRow.upd hU2 (by simp)).upd hU5 (by simp)
      have hB5 := (hB.upd hU2 (by simp)).upd hU5 (by simp)
      have hUw5 := (hU.then hU2).then hU5
      have hnl : (List.replicate n (Value.int .i64 (x : Nat))).length = n * 1 := by simp
      have hnews : ∀ j u, (List.replicate n (Value.int .i64 (x : Nat)))[j]? = some u → w5.cell? ((⟨w2.heap.size, 0, none⟩ : Addr).add j) = some u := fun j u hj => by
        have h := hR5.cell j hj
        cases j with
        | zero => exact h
        | succ j => simpa [Addr.add] using h
      have hone : ∀ u ∈ List.replicate n (Value.int .i64 (x : Nat)), u.oneCell' = true := by intro u hu; rw [(List.mem_replicate.1 hu).2]; rfl
      clear hRow hB hU hU2 hcc hR5 hs5 d0 d1
      obtain ⟨news, hnw⟩ : ∃ l, l = List.replicate n (Value.int .i64 (x : Nat)) := ⟨_, rfl⟩
      rw [← hnw] at hnl hnews hone
      have HNW := Lib.hid hnw
      have HNEWS := Lib.hid hnews
      have HONE := Lib.hid hone
      clear hnw hnews hone
      go_wp2_with (at_builtin; refine wpList_app _ rfl _ _ 22 rfl 3 i0 _ 1 8 Try.underlying22 hi0 hz0 hz1 hz2 rfl (by omega) _ L.length _ rfl hRow5 ⟨w2.heap.size, 0, none⟩ n n news rfl hnl HNEWS.out HONE.out (by unfold maxLen; omega) (by omega) ?_)
      intro v9 w9 hR9 hU9 hT9
      go_wp2
      go_roundg (4 - (i + 1))
      case measure => omega
      case rel =>
        refine ⟨i + 1, by omega, rfl, rfl, ?_, ?_, ?_, ?_, ?_⟩
        · rw [hst, List.length_append, List.length_replicate]
          rw [HNW.out] at hR9
          simpa [i64s, List.map_append] using hR9
        · exact hUw5.trans hU9 (fun k hk => .inr (hnew k (by simpa using hk)))
        · exact hB5.upd hU9 (by simpa [eq_comm] using hne)
        · exact hT9.ne hB5.lt hne
        · intro k hk
          rcases hT9 with h | ⟨g, h1, h2⟩
          · rw [h] at hk; exact hnew k hk
          · rw [h1] at hk; cases hk; exact Nat.le_trans hUw5.size h2
    · have hcz : ¬ (i : Int) < 4 := by omega
      have hi4 : i = 4 := by omega
      subst hi4
      have hL4 : (fixP 4).length = 288 := by
        unfold fixP fixRows
        simp only [List.take_succ_cons, List.take_nil, List.flatMap_cons, List.flatMap_nil, List.length_append, List.length_replicate, List.length_nil]
      rw [hL4] at hRow
      generalize hL : fixP 4 = L4 at *
      have HL := Lib.hid hL
      clear hL
      obtain ⟨g1, c1, rfl, hg1, hg2⟩ := hRow.form' (by omega)
      have hgw : w.heap.size ≤ g1 := hnew g1 rfl
      go_wp2_with fail
      have hU2 : Upd [] wr (wr.alloc (Obj.cells #[.int .i64 5] 3)) := (Upd.refl [] wr).alloc _
      have hcc := (Blk.new wr [.int .i64 5] 3).cell 0 rfl
      refine (repeat_one wr.heap.size 0 1 32 5 _ hcc (by omega) (by omega)).mono ?_
      rintro e w5 ⟨rfl, hR5, hU5, hs5⟩
      have hsz := hU2.size
      generalize wr.alloc (Obj.cells #[.int .i64 5] 3) = w2 at *
      have hRow5 := (hRow.upd hU2 (by simp)).upd hU5 (by simp)
      have hUw5 := (hU.then hU2).then hU5
      go_wp2
      go_returns
      exact ⟨g1, c1, w2.heap.size, rfl, by rw [HL.out]; exact hRow5, hR5, hUw5, hgw, Nat.le_trans hU.size hsz⟩
end Go.Proofs.Ytdehkaknbmbieaa

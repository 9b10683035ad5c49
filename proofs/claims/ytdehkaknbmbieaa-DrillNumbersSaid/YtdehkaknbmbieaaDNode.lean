/- Package drill: Node: its walk. -/
import Derived.Test.YtdehkaknbmbieaaDPath
import Derived.Test.YtdehkaknbmbieaaDFrom
import Derived.Test.YtdehkaknbmbieaaRNodeR
namespace Go.Proofs.Ytdehkaknbmbieaa
set_option linter.unusedVariables false
set_option linter.unusedSimpArgs false
set_option linter.unusedSectionVars false
open Go.RowKit
set_option linter.unusedVariables false
set_option linter.unusedSimpArgs false

def wdP : List (List Nat) := [[97, 98], [115, 119, 105, 110, 103, 108, 101, 32], [120], [116, 104, 101, 32, 115, 97, 109, 101, 32, 97, 103, 97, 105, 110, 44, 32], [0, 0]]
def wdAt (k : Nat) : List Nat := wdP.getD k []
def wordS (x : Nat) : Nat → List Nat × Nat
  | 0 => ([], x)
  | i + 1 => ((wordS x i).1 ++ wdAt (belowI (wordS x i).2 5), nextB (wordS x i).2 5)
theorem wordS_succ (x i : Nat) : wordS x (i + 1) = ((wordS x i).1 ++ wdAt (belowI (wordS x i).2 5), nextB (wordS x i).2 5) := by rw [wordS]
theorem wdAt_len (k : Nat) : (wdAt k).length ≤ 16 := by
  unfold wdAt wdP
  rcases k with _ | _ | _ | _ | _ | k <;> simp
theorem wordS_len (x : Nat) : ∀ i, (wordS x i).1.length ≤ 16 * i
  | 0 => by simp [wordS]
  | i + 1 => by
    rw [wordS_succ, List.length_append]
    have := wordS_len x i
    have := wdAt_len (belowI (wordS x i).2 5)
    omega
theorem belowI_lt9 (x : Nat) : belowI x 9 < 9 := belowI_lt x 9 (by omega)
theorem belowI_lt4 (x : Nat) : belowI x 40000 < 40000 := belowI_lt x 40000 (by omega)
theorem belowI_lt512 (x : Nat) : belowI x 512 < 512 := belowI_lt x 512 (by omega)
def wdCells : List Value := [.string ⟨#[97, 98]⟩, .string ⟨#[115, 119, 105, 110, 103, 108, 101, 32]⟩, .string ⟨#[120]⟩, .string ⟨#[116, 104, 101, 32, 115, 97, 109, 101, 32, 97, 103, 97, 105, 110, 44, 32]⟩, .string ⟨#[0, 0]⟩]
theorem wdCells_at (k : Nat) (h : k < 5) : wdCells[k]? = some (.string (strOf (wdAt k))) := by
  rcases k with _ | _ | _ | _ | _ | k
  all_goals first | rfl | omega
/-- The node that dice tell, and the number behind it. -/
def NodeRel (x k m t : Nat) (D : List Nat) (x' : Nat) : Prop :=
  (belowI x 3 = 0 ∧ k = 2 ∧ m = 493 ∧ t = 0 ∧ D = [] ∧ x' = nextB x 3) ∨
  (belowI x 3 ≠ 0 ∧ k = 1 ∧ ∃ ws, ws = wordS (nextB (nextB x 3) 9) (belowI (nextB x 3) 9) ∧ D = ws.1 ∧ DayT (belowI ws.2 40000) t ∧ m = belowI (nextB ws.2 40000) 512 ∧ x' = nextB (nextB ws.2 40000) 512)
theorem NodeRel.uniq {x k m t : Nat} {D : List Nat} {x' k2 m2 t2 : Nat} {D2 : List Nat} {x2 : Nat} (h : NodeRel x k m t D x') (g : NodeRel x k2 m2 t2 D2 x2) : k = k2 ∧ m = m2 ∧ t = t2 ∧ D = D2 ∧ x' = x2 := by
  rcases h with ⟨h0, h1, h2, h3, h4, h5⟩ | ⟨h0, h1, ws, hw, hD, hd, hm, hx⟩
  · rcases g with ⟨g0, g1, g2, g3, g4, g5⟩ | ⟨g0, _⟩
    · exact ⟨h1.trans g1.symm, h2.trans g2.symm, h3.trans g3.symm, h4.trans g4.symm, h5.trans g5.symm⟩
    · exact absurd h0 g0
  · rcases g with ⟨g0, _⟩ | ⟨g0, g1, us, gw, gD, gd, gm, gx⟩
    · exact absurd g0 h0
    · have e : us = ws := gw.trans hw.symm
      rw [e] at gD gd gm gx
      exact ⟨h1.trans g1.symm, hm.trans gm.symm, hd.uniq gd, hD.trans gD.symm, hx.trans gx.symm⟩
theorem strOf_nil_list : (strOf []).toList = [] := by simp [strOf, ByteArray.toList_eq]
theorem NodeRel.right {x k m t : Nat} {D : List Nat} {x' : Nat} (h : NodeRel x k m t D x') : nodeErr k m t (strOf D) = 0 ∧ k ≠ 0 ∧ D.length ≤ 200 ∧ t < 4294967296 ∧ k ≤ 2 := by
  rcases h with ⟨h0, h1, h2, h3, h4, h5⟩ | ⟨h0, h1, ws, hw, hD, hd, hm, hx⟩
  · rw [h1, h2, h3, h4]
    refine ⟨?_, by omega, by simp, by omega, by omega⟩
    unfold nodeErr
    rw [strOf_nil_list, size_strOf]
    simp
  · have h4 := belowI_lt4 ws.2
    have hr := hd.right h4
    have h5 := belowI_lt512 (nextB ws.2 40000)
    have hl : ws.1.length ≤ 200 := by
      rw [hw]
      have h1 := wordS_len (nextB (nextB x 3) 9) (belowI (nextB x 3) 9)
      have h2 := belowI_lt9 (nextB x 3)
      omega
    rw [← hm] at h5
    rw [h1, hD]
    refine ⟨?_, by omega, hl, hr.1, by omega⟩
    unfold nodeErr
    rw [hr.2, size_strOf]
    rw [if_neg (by omega), if_neg (by omega), if_neg (by omega), if_neg (by omega), if_neg (by simp), if_neg (by omega)]
theorem results_nd {fn : Func} {p : Tmp} (h : fn.results = #[.cell p 80]) (tmps : Array Value) (w : World) (g : Nat) (c0 c1 c2 c3 : Value) (hp : tmps.getD p undef = .pointer (some ⟨g, 0, none⟩)) (hB : Blk w g [c0, c1, c2, c3] 80) :
    (results fn tmps).run Try.prog w = .ok (.agg #[c0, c1, c2, c3]) w := by
  have h0 := hB.cell 0 rfl
  have h1 := hB.cell 1 rfl
  have h2 := hB.cell 2 rfl
  have h3 := hB.cell 3 rfl
  have hp2 : tmps[p]?.getD undef = .pointer (some ⟨g, 0, none⟩) := by rw [← hp]; simp
  simp [results, h, go_sem, hp2, h0, h1, h2, h3]
theorem Blk.set4 {w : World} {b : Nat} {a0 a1 a2 a3 : Value} {t : TypeId} (h : Blk w b [a0, a1, a2, a3] t) (v0 v1 v2 v3 : Value) :
    Blk ((((w.setCell ⟨b, 0, none⟩ v0).setCell ⟨b, 1, none⟩ v1).setCell ⟨b, 2, none⟩ v2).setCell ⟨b, 3, none⟩ v3) b [v0, v1, v2, v3] t := (((h.set 0 v0).set 1 v1).set 2 v2).set 3 v3
theorem Upd.set4 {fp : List Nat} {w0 w : World} {b : Nat} (h : Upd fp w0 w) (hb : b ∈ fp ∨ w0.heap.size ≤ b) (v0 v1 v2 v3 : Value) :
    Upd fp w0 ((((w.setCell ⟨b, 0, none⟩ v0).setCell ⟨b, 1, none⟩ v1).setCell ⟨b, 2, none⟩ v2).setCell ⟨b, 3, none⟩ v3) := (((h.setCell hb v0).setCell hb v1).setCell hb v2).setCell hb v3
def zeroNode : List Value := [.int .i64 0, .int .i64 0, .int .u32 0, .string { data := #[] }]
set_option maxRecDepth 100000 in
set_option maxHeartbeats 1600000 in
theorem dnode_nil (w : World) : Calls Try.prog 42 #[.pointer none] w fun e w' => e = .returned (nodeV 0 0 0 .empty) ∧ Upd [] w w' := by
  go_enter Try.func42, Try.ntmps42
  go_wp2_with fail
  (try simp only [Exit.inBlock, Exit.then]); refine bodyPost_ret (results_nd rfl _ _ w.heap.size _ _ _ _ rfl (Blk.new w zeroNode 80)) rfl ⟨rfl, (Upd.refl _ _).alloc _⟩
def DNodeP (b x : Nat) (w : World) (e : Ending) (w' : World) : Prop := ∃ (k m t : Nat) (D : List Nat) (x' : Nat), e = .returned (nodeV (k : Int) (m : Int) t (strOf D)) ∧ NodeRel x k m t D x' ∧ DiceB w' b x' ∧ Upd [b] w w'
set_option maxRecDepth 100000 in
set_option maxHeartbeats 3200000 in
theorem dnode_any (b x : Nat) (w : World) (h : DiceB w b x) : Calls Try.prog 42 #[.pointer (some ⟨b, 0, none⟩)] w fun e w' => DNodeP b x w e w' := by
  have hbl := h.lt
  have HBW := Lib.hid (dbelow_any b x 3 _ (h.upd ((Upd.refl [] w).alloc (.cells zeroNode.toArray 80)) (by simp)) (by omega))
  have hN0 : Blk (w.alloc (.cells zeroNode.toArray 80)) w.heap.size zeroNode 80 := Blk.new w zeroNode _
  have hU0 : Upd [b] w (w.alloc (.cells zeroNode.toArray 80)) := (Upd.refl [b] w).alloc _
  obtain ⟨r0, hr0⟩ : ∃ r, w.heap.size = r := ⟨_, rfl⟩
  rw [hr0] at hbl hN0
  have hs0 : (w.alloc (.cells zeroNode.toArray 80)).heap.size = r0 + 1 := by simp [hr0]
  have HN0 := Lib.hid hN0
  have HU0 := Lib.hid hU0
  have HR0 := Lib.hid hr0
  have HS0 := Lib.hid hs0
  clear hN0 hU0 h hs0
  go_enter Try.func42, Try.ntmps42
  go_wp2_with fail
  refine HBW.out.mono ?_
  rintro e w1 ⟨rfl, hD1, hU1⟩
  have hsz1 : r0 + 1 ≤ w1.heap.size := by have := hU1.size; have := HS0.out; omega
  have HD1 := Lib.hid hD1
  have HN1 := Lib.hid (HN0.out.upd hU1 (by simp; omega))
  have HU1 := Lib.hid (HU0.out.then hU1)
  clear hD1 hU1 HBW HU0 HN0 hr0
  by_cases h0 : belowI x 3 = 0
  · have f0 := HN1.out.frz 0
    have f1 := HN1.out.frz 1
    have f2 := HN1.out.frz 2
    have f3 := HN1.out.frz 3
    have c0 := HN1.out.cell 0 rfl
    have c1 := HN1.out.cell 1 rfl
    have c2 := HN1.out.cell 2 rfl
    have c3 := HN1.out.cell 3 rfl
    have HRel : Hid (NodeRel x 2 493 0 [] (nextB x 3)) := Lib.hid (.inl ⟨h0, rfl, rfl, rfl, rfl, rfl⟩)
    rw [h0]
    generalize nextB x 3 = y at *
    clear h0
    go_wp2_with fail
    (try simp only [Exit.inBlock, Exit.then]); refine bodyPost_ret (results_nd rfl _ _ r0 _ _ _ _ rfl (Blk.set4 HN1.out _ _ _ _)) rfl ⟨2, 493, 0, [], y, rfl, HRel.out, ?_, Upd.set4 HU1.out (.inr (by rw [HR0.out]; exact Nat.le_refl _)) _ _ _ _⟩
    exact HD1.out.upd (Upd.set4 (Upd.refl [r0] w1) (.inl (by simp)) _ _ _ _) (by simp; omega)
  · have H0 := Lib.hid h0
    have h0b : ((belowI x 3 : Int) == 0) = false := by simpa using h0
    have h0z : ¬ ((belowI x 3 : Int) = 0) := by omega
    have HRel : Hid (∀ (m t : Nat) (D : List Nat) (x' : Nat) ws, ws = wordS (nextB (nextB x 3) 9) (belowI (nextB x 3) 9) → D = ws.1 → DayT (belowI ws.2 40000) t → m = belowI (nextB ws.2 40000) 512 → x' = nextB (nextB ws.2 40000) 512 → NodeRel x 1 m t D x') := Lib.hid (fun m t D x' ws h1 h2 h3 h4 h5 => .inr ⟨H0.out, rfl, ws, h1, h2, h3, h4, h5⟩)
    generalize belowI x 3 = d3 at *
    generalize nextB x 3 = y at *
    have HB9 := Lib.hid (dbelow_any b y 9 _ (HD1.out.upd ((Upd.refl [] w1).alloc (.cells wdCells.toArray 112)) (by simp)) (by omega))
    clear h0 H0
    go_wp2_with fail
    refine HB9.out.mono ?_
    rintro e w2 ⟨rfl, hD2, hU2⟩
    have hc9 : belowI y 9 < 9 := belowI_lt9 y
    have HB2 : Hid (Blk w2 w1.heap.size wdCells 112) := Lib.hid ((Blk.new w1 wdCells 112).upd hU2 (by simp; omega))
    have HN2 := Lib.hid ((HN1.out.alloc (.cells wdCells.toArray 112)).upd hU2 (by simp; omega))
    have HU2 := Lib.hid ((HU1.out.alloc (.cells wdCells.toArray 112)).then hU2)
    have HD2 := Lib.hid hD2
    have hsz2 : w1.heap.size + 1 ≤ w2.heap.size := by have := hU2.size; simp at this; exact this
    have hbc : b ≠ w1.heap.size := by omega
    generalize w1.heap.size = cw at *
    generalize nextB y 9 = z at *
    generalize belowI y 9 = c at *
    clear hD2 hU2 HB9 HD1 HN1 HU1
    go_wp2
    go_loopg [4, 17] 9 (fun gg s4 s17 wr => ∃ i : Nat, i ≤ c ∧ gg = 9 - i ∧ s17 = .int .i64 (i : Nat) ∧ s4 = .string (strOf (wordS z i).1) ∧ Hid (DiceB wr b (wordS z i).2) ∧ Hid (Upd [b] w2 wr))
    case atStart => exact ⟨0, by omega, by omega, rfl, rfl, HD2, Lib.hid (Upd.refl _ _)⟩
    case round =>
      obtain ⟨i, hic, rfl, rfl, rfl, HD, HU⟩ := hrel
      have hlen : (strOf (wordS z i).1).size ≤ 16 * i := by rw [size_strOf]; exact wordS_len z i
      by_cases hc : i < c
      · have hcz : (i : Int) < (c : Int) := by omega
        have hw1 : IntKind.i64.wrap ((i : Int) + 1) = ((i + 1 : Nat) : Int) := by rw [IntWalk.i64_in _ (by omega)]; rfl
        have HBW := Lib.hid (dbelow_any b (wordS z i).2 5 wr HD.out (by omega))
        have hk5 : belowI (wordS z i).2 5 < 5 := belowI_lt5 (wordS z i).2
        have HS : Hid ((wordS z (i + 1)) = ((wordS z i).1 ++ wdAt (belowI (wordS z i).2 5), nextB (wordS z i).2 5)) := Lib.hid (wordS_succ z i)
        go_wp2_with fail
        refine HBW.out.mono ?_
        rintro e w3 ⟨rfl, hD3, hU3⟩
        have hcell := ((HB2.out.upd HU.out (by simp; omega)).upd hU3 (by simp; omega)).cell _ (wdCells_at _ hk5)
        have HD3 := Lib.hid hD3
        have HU3 := Lib.hid (HU.out.then hU3)
        generalize belowI (wordS z i).2 5 = k at *
        generalize nextB (wordS z i).2 5 = z2 at *
        have HCat : Hid (strOf (wordS z (i + 1)).1 = strOf (wordS z i).1 ++ strOf (wdAt k)) := Lib.hid (by rw [HS.out, strOf_append])
        have HD4 : Hid (DiceB w3 b (wordS z (i + 1)).2) := Lib.hid (by rw [HS.out]; exact HD3.out)
        have hadd : ∀ W', (Op.stringOp .add (strOf (wordS z i).1) (strOf (wdAt k))).run Try.prog W' = .ok (.string (strOf (wordS z i).1 ++ strOf (wdAt k))) W' := fun W' => run_string_add_sum _ _ _ (by have := wdAt_len k; simp only [size_strOf] at hlen ⊢; omega)
        generalize hnm : strOf (wdAt k) = S at *
        generalize strOf (wordS z i).1 = A at *
        clear hD3 hU3 HBW hnm HD HS HD3
        rcases (by omega : k = 0 ∨ k = 1 ∨ k = 2 ∨ k = 3 ∨ k = 4) with rfl | rfl | rfl | rfl | rfl
        all_goals
          clear hk5
          go_wp2
          go_roundg (9 - (i + 1))
          · exact ⟨i + 1, by omega, by first | rfl | omega, by first | rfl | go_num, by rw [HCat.out], HD4, HU3⟩
          · omega
      · have hcz : ¬ (i : Int) < (c : Int) := by omega
        obtain rfl : i = c := by omega
        have HRel2 := Lib.hid (fun m t D x' h1 h2 h3 h4 => HRel.out m t D x' (wordS z i) rfl h1 h2 h3 h4)
        generalize hws : wordS z i = ws at *
        obtain ⟨wl, wx⟩ := ws
        dsimp only at *
        have HB4 := Lib.hid (dbelow_any b wx 40000 wr HD.out (by omega))
        have h4 := belowI_lt4 wx
        clear HRel hws
        go_wp2_with fail
        refine HB4.out.mono ?_
        rintro e w3 ⟨rfl, hD3, hU3⟩
        have HD3 := Lib.hid hD3
        have HU3 := Lib.hid (HU.out.then hU3)
        clear hD3 hU3 HB4
        generalize nextB wx 40000 = x3 at *
        generalize belowI wx 40000 = dd at *
        have hmul : IntKind.i64.wrap ((dd : Int) * 86400) = ((dd * 86400 : Nat) : Int) := by rw [IntWalk.i64_in _ (by omega)]; rfl
        have HFR := Lib.hid (dfrom_any dd w3 h4)
        obtain ⟨dm, hdm⟩ : ∃ q, dd * 86400 = q := ⟨_, rfl⟩
        rw [hdm] at hmul HFR
        clear hdm h4
        go_wp2_with fail
        refine HFR.out.mono ?_
        rintro e w4 ⟨t, rfl, hT, hU4⟩
        have HT := Lib.hid hT
        have HB5 := Lib.hid (dbelow_any b x3 512 w4 (HD3.out.upd hU4 (by simp)) (by omega))
        have HU4 := Lib.hid (HU3.out.trans hU4 (fun q hq => by simp at hq))
        clear hT hU4 HFR HU3 HD3
        go_wp2_with fail
        refine HB5.out.mono ?_
        rintro e w5 ⟨rfl, hD5, hU5⟩
        have HD5 := Lib.hid hD5
        have HU5 := Lib.hid (HU4.out.then hU5)
        have HRel3 := Lib.hid (HRel2.out (belowI x3 512) t wl (nextB x3 512) rfl HT.out rfl rfl)
        clear hD5 hU5 HB5 HU4 HRel2
        generalize nextB x3 512 = x5 at *
        generalize belowI x3 512 = mm at *
        have HN5 := Lib.hid (HN2.out.upd HU5.out (by simp; omega))
        have f0 := HN5.out.frz 0
        have f1 := HN5.out.frz 1
        have f2 := HN5.out.frz 2
        have f3 := HN5.out.frz 3
        have c0 := HN5.out.cell 0 rfl
        have c1 := HN5.out.cell 1 rfl
        have c2 := HN5.out.cell 2 rfl
        have c3 := HN5.out.cell 3 rfl
        have HUF := Lib.hid (HU2.out.then HU5.out)
        clear HN2 HU2 HD2
        go_wp2_with fail
        (try simp only [Exit.inBlock, Exit.then]); refine bodyPost_ret (results_nd rfl _ _ r0 _ _ _ _ rfl (Blk.set4 HN5.out _ _ _ _)) rfl ⟨1, mm, t, wl, x5, rfl, HRel3.out, ?_, Upd.set4 HUF.out (.inr (by rw [HR0.out]; exact Nat.le_refl _)) _ _ _ _⟩
        exact HD5.out.upd (Upd.set4 (Upd.refl [r0] w5) (.inl (by simp)) _ _ _ _) (by simp; omega)
end Go.Proofs.Ytdehkaknbmbieaa

/- Package name: Right. -/
import Derived.Test.YtigjingielnaoaaDoorQAU
import Derived.WalkKit
import Derived.Handy
import Derived.Outline
import Derived.BigQuiet
import Derived.Deep.CutBlock
import Derived.Deep.DeepCutAuto
import Derived.Deep.DeepFit
import Derived.Deep.Light
import Derived.Deep.LoopGhost
import Derived.Deep.QuietTactic
import Derived.Deep.RegionHeld3
import Derived.Deep.RegionLaw
import Derived.IntWalk
import Derived.Laws.BitsAllLaws
import Derived.Lib.MinMax
import Derived.StillTailTactics
import Derived.WalkSpells
import Derived.Lib.Hide
import Derived.Test.YtigjingielnaoaaDoorQAA
namespace Go.Proofs.YtigjingielnaoaaDoor
set_option linter.unusedVariables false
set_option linter.unusedSimpArgs false
set_option linter.unusedSectionVars false
open Go.RowKit Go.Shelf
attribute [local go_sem] Oper.semAt_some
set_option linter.unusedVariables false

theorem wp_act {P : Program} {c : Code} {Q : Exit → Act → World → Prop} {a : Act} {w : World} (h : ∀ fr, fr = a → c.wp P Q fr w) : c.wp P Q a w := h a rfl
theorem Upd.putObj' {fp : List Nat} {a w : World} (h : Upd fp a w) {D : Nat} (hD : a.heap.size ≤ D) (o : Obj) : Upd fp a (w.putObj D o) := h.grown (grownBy_putObj' w D o) (fun k e => by cases e; exact .inr hD)
theorem reserved_any (w : World) : Calls Tryd.prog 62 #[] w fun e w' => e = .returned (.string { data := #[46, 115, 119, 105, 110, 103, 108, 101] }) ∧ w = w' := by
  go_enter Tryd.func62, Tryd.ntmps62
  go_wp2
  go_ret
  exact ⟨rfl, rfl⟩
theorem eq_res (l : List Nat) (hl : ∀ x ∈ l, x < 256) : ((strOf l).toList == [46, 115, 119, 105, 110, 103, 108, 101]) = decide (l = resP) := by
  rw [toList_bytes, bytesOf_strOf l hl]; rfl
theorem splitP_lt (s : ByteArray) : ∀ p ∈ splitP (bytesOf s), ∀ x ∈ p, x < 256 := fun p hp x hx => bytesOf_lt s x (splitP_mem _ p hp x hx)
theorem partsS_mem (s x : ByteArray) (h : x ∈ partsS s) : bytesOf x ∈ splitP (bytesOf s) := by
  unfold partsS at h
  obtain ⟨p, hp, rfl⟩ := List.mem_map.1 h
  rw [bytesOf_strOf p (splitP_lt s p hp)]; exact hp
/-- Of the parts so far: each may be, and they are not too many. -/
def AllP (pre : List Shs) : Prop := pre.length ≤ 12 ∧ ∀ x ∈ pre, partOk (bytesOf x.1) = true
/-- .. or one may not be, or they are too many. -/
def NotP (pre : List Shs) : Prop := 12 < pre.length ∨ ∃ x ∈ pre, partOk (bytesOf x.1) = false
theorem allP_done (s : ByteArray) (h1 : s.size ≤ 200) (h2 : (splitP (bytesOf s)).headD [] ≠ resP) (pre : List Shs) (hp : pre.map Subtype.val = partsS s) (h : AllP pre) : rightP (bytesOf s) = true := by
  obtain ⟨h3, h4⟩ := h
  have hl : (splitP (bytesOf s)).length = pre.length := by
    have := congrArg List.length hp
    rw [List.length_map] at this; unfold partsS at this; rw [List.length_map] at this; omega
  refine rightP_yes (by rw [length_bytesOf]; exact h1) h2 (by omega) fun p hpm => ?_
  have hm : strOf p ∈ pre.map Subtype.val := by rw [hp]; unfold partsS; exact List.mem_map_of_mem hpm
  obtain ⟨x, hx, hxe⟩ := List.mem_map.1 hm
  have := h4 x hx
  rwa [hxe, bytesOf_strOf p (splitP_lt s p hpm)] at this
theorem allP_not (s : ByteArray) (pre : List Shs) (hp : pre.map Subtype.val <+: partsS s) (h : NotP pre) : rightP (bytesOf s) = false := by
  rcases h with h | ⟨x, hx, hb⟩
  · have h1 := hp.length_le
    unfold partsS at h1
    rw [List.length_map, List.length_map] at h1
    exact rightP_many (by omega)
  · exact rightP_bad (partsS_mem s x.1 (hp.subset (List.mem_map_of_mem hx))) hb
theorem results_cellB {fn : Func} {p : Tmp} (h : fn.results = #[.cell p 4]) (tmps : Array Value) (w : World) (g : Nat) (b : Bool) (hp : tmps.getD p undef = .pointer (some ⟨g, 0, none⟩)) (hB : Blk w g [.bool b] 4) :
    (results fn tmps).run Tryd.prog w = .ok (.bool b) w := by
  have hc := hB.cell 0 rfl
  have hp2 : tmps[p]?.getD undef = .pointer (some ⟨g, 0, none⟩) := by rw [← hp]; simp
  simp [results, h, go_sem, hp2, hc]
/-- Between two rounds. -/
def NrI (s : ByteArray) (w0 : World) (bn br : Nat) (pre : List Shs) (W : World) : Prop := Blk W bn [.int .i64 (pre.length : Nat)] 3 ∧ Blk W br [.bool false] 4 ∧ Upd [] w0 W
theorem NrI.own {s : ByteArray} {w0 : World} {bn br B : Nat} (hB : w0.heap.size ≤ B) : OwnFrom B (NrI s w0 bn br) := fun p A C row hs hg hr => by
  obtain ⟨h1, h2, h3⟩ := hs
  exact ⟨blk_ownF B bn (fun (_ : Unit) => _) _ () A C row h1 hg hr, blk_ownF B br (fun (_ : Unit) => _) _ () A C row h2 hg hr, upd_ownF B [] w0 hB () A C row h3 hg hr⟩
theorem NrI.w2 {s : ByteArray} {w0 : World} {bn br bs : Nat} (h1 : bn ≠ bs) (h2 : br ≠ bs) (h3 : w0.heap.size ≤ bs) : ∀ p A C, NrI s w0 bn br p A → Own2 [bs] A C → NrI s w0 bn br p C := fun p A C hs hAC => by
  obtain ⟨k1, k2, k3⟩ := hs
  exact ⟨k1.upd hAC.1 (by simpa using h1), k2.upd hAC.1 (by simpa using h2), k3.trans hAC.1 (fun k hk => by simp at hk; subst hk; exact .inr h3)⟩
set_option maxRecDepth 100000 in
set_option maxHeartbeats 4000000 in
theorem nameRight_any (s : ByteArray) (w : World) (hs : s.size ≤ 9223372036854775807) : Calls Tryd.prog 61 #[.string s] w fun e w' => e = .returned (.bool (rightP (bytesOf s))) ∧ Upd [] w w' := by
  have HC := Lib.hid (fun w => cut_any s w hs)
  have hhd : ∀ x ∈ (splitP (bytesOf s)).headD [], x < 256 := splitP_lt s _ (by
    rw [splitP_ht (bytesOf s)]; simp)
  have HQ := Lib.hid (eq_res _ hhd)
  have HLN := Lib.hid (length_bytesOf s)
  clear hhd
  refine (callsIn_wide (n := 9)).1 ?_
  refine callsIn_of_wp_marks Tryd.func61 rfl trivial ?_ rfl
  simp only [Tryd.ntmps61, List.size_toArray, List.length_cons, List.length_nil, Nat.reduceAdd, Nat.reduceSub, Array.replicate_succ, Array.replicate_zero, List.push_toArray, List.append_toArray, List.nil_append, List.cons_append]
  refine wpIn_wide.2 ?_
  let QQ : Exit → Act → World → Prop := bodyPost Tryd.prog Tryd.f61 (fun _ _ => True)
  by_cases h200 : 200 < s.size
  · have HE := Lib.hid (rightP_long (l := bytesOf s) (by rw [HLN.out]; exact h200))
    generalize (splitP (bytesOf s)).headD [] = hd at *
    go_wp2_with fail
    refine (HC.out _).mono ?_
    rintro e w1 ⟨⟨r, b, rfl⟩, hU1⟩
    have hBr : Blk w1 w.heap.size [.bool false] 4 := (Blk.new w [.bool false] 4).upd hU1 (by simp)
    have cr := hBr.cell 0 rfl
    have fr := hBr.frz 0
    have HBr := Lib.hid hBr
    have HUU := Lib.hid (((Upd.refl [] w).alloc (.cells #[.bool false] 4)).then hU1)
    clear hU1 hBr
    go_wp2
    exact ⟨.bool false, results_cellB rfl _ _ w.heap.size false rfl (HBr.out.set 0 _), by rw [HE.out], HUU.out.setCell (.inr (Nat.le_refl _)) _⟩
  · by_cases hres : (splitP (bytesOf s)).headD [] = resP
    · have HE := Lib.hid (rightP_res (l := bytesOf s) hres)
      have t1 := HQ.out.trans (decide_eq_true hres)
      clear hres HQ
      generalize (splitP (bytesOf s)).headD [] = hd at *
      go_wp2_with fail
      refine (HC.out _).mono ?_
      rintro e w1 ⟨⟨r, b, rfl⟩, hU1⟩
      have hBr : Blk w1 w.heap.size [.bool false] 4 := (Blk.new w [.bool false] 4).upd hU1 (by simp)
      have cr := hBr.cell 0 rfl
      have fr := hBr.frz 0
      have HBr := Lib.hid hBr
      have HUU := Lib.hid (((Upd.refl [] w).alloc (.cells #[.bool false] 4)).then hU1)
      clear hU1 hBr
      go_wp2_with (go_at_call 62; refine (reserved_any _).mono ?_; rintro e w' ⟨rfl, rfl⟩)
      exact ⟨.bool false, results_cellB rfl _ _ w.heap.size false rfl (HBr.out.set 0 _), by rw [HE.out], HUU.out.setCell (.inr (Nat.le_refl _)) _⟩
    · have HN := Lib.hid hres
      have t1 := HQ.out.trans (decide_eq_false hres)
      have hs2 : s.size ≤ 200 := by omega
      have HDN := Lib.hid (allP_done s hs2 hres)
      have HNT := Lib.hid (allP_not s)
      clear hres HQ HN
      generalize (splitP (bytesOf s)).headD [] = hd at *
      go_wp2_with fail
      refine (HC.out _).mono ?_
      rintro e w1 ⟨⟨r, b, rfl⟩, hU1⟩
      have HBr : Hid (Blk w1 w.heap.size [.bool false] 4) := Lib.hid ((Blk.new w [.bool false] 4).upd hU1 (by simp))
      have HUU := Lib.hid (((Upd.refl [] w).alloc (.cells #[.bool false] 4)).then hU1)
      clear hU1
      go_wp2_with (go_at_call 62; refine (reserved_any _).mono ?_; rintro e w' ⟨rfl, rfl⟩)
      have HBn : Hid (Blk (w1.alloc (.cells #[.int .i64 0] 3)) w1.heap.size [.int .i64 (([] : List Shs).length : Nat)] 3) := Lib.hid (Blk.new w1 [.int .i64 0] 3)
      have hA2 : Upd [] w1 (w1.alloc (.cells #[.int .i64 0] 3)) := (Upd.refl _ _).alloc _
      have HBr2 := Lib.hid (HBr.out.upd hA2 (by simp))
      have HU2 := Lib.hid (HUU.out.then hA2)
      have hz2 : w1.heap.size < (w1.alloc (.cells #[.int .i64 0] 3)).heap.size := by simp
      clear hA2 HUU
      have hlt0 := HBr.out.lt
      have hle0 : w.heap.size ≤ w1.heap.size := by omega
      clear HBr
      generalize w1.alloc (.cells #[.int .i64 0] 3) = w2 at *
      obtain ⟨bn, hbn⟩ : ∃ bn, w1.heap.size = bn := ⟨_, rfl⟩
      rw [hbn] at HBn hz2 hlt0 hle0 ⊢
      clear hbn
      go_wp2_with fail
      refine (splitSeq_any s w2).mono ?_
      rintro e w3 ⟨rfl, hw3⟩
      have HS3 : Hid (Blk w3 w2.heap.size [.string s] 9 ∧ Blk w3 (w2.heap.size + 1) [.string { data := #[47] }] 9 ∧ Blk w3 (w2.heap.size + 2) [.int .i64 0] 3) := Lib.hid (by
        rw [hw3]
        refine ⟨((Blk.new w2 [.string s] 9).alloc _).alloc _, ?_, ?_⟩
        · have := (Blk.new (w2.alloc (.cells #[.string s] 9)) [.string { data := #[47] }] 9).alloc (.cells #[.int .i64 0] 3)
          rw [World.size_alloc] at this; exact this
        · have := Blk.new ((w2.alloc (.cells #[.string s] 9)).alloc (.cells #[.string { data := #[47] }] 9)) [.int .i64 0] 3
          rw [World.size_alloc, World.size_alloc] at this; exact this)
      have hA3 : Upd [] w2 w3 := by rw [hw3]; exact (((Upd.refl _ _).alloc _).alloc _).alloc _
      have hz3 : w3.heap.size = w2.heap.size + 3 := by rw [hw3]; simp
      have HBn3 := Lib.hid (HBn.out.upd hA3 (by simp))
      have HBr3 := Lib.hid (HBr2.out.upd hA3 (by simp))
      have HU3 := Lib.hid (HU2.out.then hA3)
      clear hw3 hA3 HBn HBr2 HU2
      obtain ⟨bs, hbs⟩ : ∃ bs, w2.heap.size = bs := ⟨_, rfl⟩
      rw [hbs] at HS3 hz3 hz2 ⊢
      clear hbs
      have hw30 : w.heap.size ≤ w3.heap.size := HU3.out.size
      go_wp2_with fail
      refine wp_act ?_
      intro fr hfr
      refine Code.wp_mono (Q := fun e a' W => (e = .normal ∨ e = .ret) ∧ ∃ D pre, a' = { fr with defers := { target := .collected D, args := #[] } :: fr.defers } ∧ w3.heap.size ≤ D ∧ W.heap[D]? = some (.deferred (some [])) ∧ Blk W w.heap.size [.bool false] 4 ∧ Upd [] w W ∧
        Hid ((e = .normal ∧ pre.map Subtype.val = partsS s ∧ AllP pre) ∨ (e = .ret ∧ pre.map Subtype.val <+: partsS s ∧ NotP pre))) ?cont ((wpIn_wide (n := 9)).1 ?main)
      case main =>
        refine loopWA (gf := 127) (lb := #[.pointer (some ⟨bs + 1, 0, none⟩), .pointer (some ⟨bs, 0, none⟩), .pointer (some ⟨bs + 2, 0, none⟩)]) (by rw [hfr]; rfl) (enters_of Tryd.func127 (by kernel_rfl) rfl)
          (split_seq bs (bs + 1) (bs + 2) s w3 HS3.out.1 HS3.out.2.1 HS3.out.2.2 ⟨by omega, by omega⟩ (by omega)) (by intro k hk; simp at hk; omega) (fun _ => rfl)
          (fun pre W => NrI s w bn w.heap.size pre W ∧ Hid (AllP pre))
          (fun c pre W => (c = .ret ∧ Hid (NotP pre)) ∧ NrI s w bn w.heap.size pre W)
          ?act
          (OwnFrom.and (NrI.own hw30) (ownFrom_pure _ _)) (fun c => OwnFrom.and (ownFrom_pure _ _) (NrI.own hw30))
          ?iw ?ixw ⟨⟨HBn3.out, HBr3.out, HU3.out⟩, Lib.hid ⟨by simp, by simp⟩⟩ ?assign ?body ?done ?stop
        case assign =>
          intro L1 x W K hK
          subst hfr
          gi_wp2
          exact hK
        case iw =>
          rintro s' A C ⟨h1, h2⟩ hAC
          exact ⟨NrI.w2 (by omega) (by omega) (by omega) _ A C h1 hAC, h2⟩
        case ixw =>
          rintro c s' A C ⟨h1, h2⟩ hAC
          exact ⟨h1, NrI.w2 (by omega) (by omega) (by omega) _ A C h2 hAC⟩
        case body =>
          rintro L1 pre x W hsz hfp ⟨⟨hn, hr, hU⟩, hA⟩ hlt
          subst hfr
          have n0 := hn.cell 0 rfl
          have nf := hn.frz 0
          have r0 := hr.cell 0 rfl
          have rf := hr.frz 0
          have HNb := Lib.hid hn
          have HRb := Lib.hid hr
          have HUb := Lib.hid hU
          have hp0 : (pre.length : Int) ≤ 12 := by have := hA.out.1; omega
          have HPT := Lib.hid (fun w => part_any x.1 w x.2)
          clear hn hr hU hlt hfp
          have hbw : w.heap.size ≠ bn := by omega
          have r1 : (W.setCell ⟨bn, 0, none⟩ (.int .i64 ((pre.length : Int) + 1))).cell? ⟨w.heap.size, 0, none⟩ = some (.bool false) := (HRb.out.setFar (a := ⟨bn, 0, none⟩) _ hbw).cell 0 rfl
          have rf1 : (W.setCell ⟨bn, 0, none⟩ (.int .i64 ((pre.length : Int) + 1))).frozen? ⟨w.heap.size, 0, none⟩ = false := (HRb.out.setFar (a := ⟨bn, 0, none⟩) _ hbw).frz 0
          have hn1 : Blk (W.setCell ⟨bn, 0, none⟩ (.int .i64 ((pre.length : Int) + 1))) bn [.int .i64 ((pre ++ [x]).length : Nat)] 3 := by
            have := HNb.out.set 0 (.int .i64 ((pre.length : Int) + 1))
            rw [List.length_append]; exact this
          have hr1 := HRb.out.setFar (a := ⟨bn, 0, none⟩) (.int .i64 ((pre.length : Int) + 1)) hbw
          have hU1 : Upd [] w (W.setCell ⟨bn, 0, none⟩ (.int .i64 ((pre.length : Int) + 1))) := HUb.out.setCell (.inr (by simp; omega)) _
          have hUx : Upd [bn] W (W.setCell ⟨bn, 0, none⟩ (.int .i64 ((pre.length : Int) + 1))) := (Upd.refl _ _).setCell (.inl (by simp)) _
          have hK1 : KeepsFrom w3.heap.size W (W.setCell ⟨bn, 0, none⟩ (.int .i64 ((pre.length : Int) + 1))) := (hUx.others (fun k hk => by simp at hk; subst hk; exact HNb.out.cellsOnly)).from _
          have hKp : Keep [bs, bs + 1, bs + 2] W (W.setCell ⟨bn, 0, none⟩ (.int .i64 ((pre.length : Int) + 1))) := Keep.of_upd hUx (fun k hk => by simp at hk; constructor <;> (try simp) <;> omega)
          have HN1 := Lib.hid hn1
          have HR1 := Lib.hid hr1
          have HU1 := Lib.hid hU1
          have HK1 := Lib.hid hK1
          have HKP := Lib.hid hKp
          have hlt1 : bn < (W.setCell ⟨bn, 0, none⟩ (.int .i64 ((pre.length : Int) + 1))).heap.size := hn1.lt
          clear hn1 hr1 hU1 hUx hK1 hKp
          cases hpo : partOk (bytesOf x.1) with
          | true =>
            rw [hpo] at HPT
            by_cases h12 : pre.length + 1 ≤ 12
            · have h12' : (pre.length : Int) + 1 ≤ 12 := by omega
              have HAN : Hid (AllP (pre ++ [x])) := Lib.hid ⟨by simp; omega, fun y hy => by
                rcases List.mem_append.1 hy with hy | hy
                · exact hA.out.2 y hy
                · simp at hy; subst hy; exact hpo⟩
              clear hpo h12
              gi_wp2_with fail
              refine ⟨trivial, (CallsIn.inRound L1 (callsIn_wide.2 (HPT.out _))).mono ?_⟩
              rintro e W2 ⟨rfl, rfl⟩
              gi_wp2
              exact ⟨HK1.out, HKP.out, ⟨HN1.out, HR1.out, HU1.out⟩, HAN⟩
            · have h12' : 12 < (pre.length : Int) + 1 := by omega
              have HAN : Hid (NotP (pre ++ [x])) := Lib.hid (.inl (by simp; omega))
              clear hpo h12
              gi_wp2_with fail
              refine ⟨trivial, (CallsIn.inRound L1 (callsIn_wide.2 (HPT.out _))).mono ?_⟩
              rintro e W2 ⟨rfl, rfl⟩
              gi_wp2
              have hUy : Upd [w.heap.size] (W.setCell ⟨bn, 0, none⟩ (.int .i64 ((pre.length : Int) + 1))) ((W.setCell ⟨bn, 0, none⟩ (.int .i64 ((pre.length : Int) + 1))).setCell ⟨w.heap.size, 0, none⟩ (.bool false)) := (Upd.refl _ _).setCell (.inl (by simp)) _
              refine ⟨HK1.out.trans ((hUy.others (fun k hk => by simp at hk; subst hk; exact HR1.out.cellsOnly)).from _), ⟨rfl, HAN⟩, HN1.out.setFar _ (by simp; omega), HR1.out.set 0 _, HU1.out.setCell (.inr (Nat.le_refl _)) _⟩
          | false =>
            rw [hpo] at HPT
            have HAN : Hid (NotP (pre ++ [x])) := Lib.hid (.inr ⟨x, by simp, hpo⟩)
            clear hpo
            gi_wp2_with fail
            refine ⟨trivial, (CallsIn.inRound L1 (callsIn_wide.2 (HPT.out _))).mono ?_⟩
            rintro e W2 ⟨rfl, rfl⟩
            gi_wp2
            have hUy : Upd [w.heap.size] (W.setCell ⟨bn, 0, none⟩ (.int .i64 ((pre.length : Int) + 1))) ((W.setCell ⟨bn, 0, none⟩ (.int .i64 ((pre.length : Int) + 1))).setCell ⟨w.heap.size, 0, none⟩ (.bool false)) := (Upd.refl _ _).setCell (.inl (by simp)) _
            refine ⟨HK1.out.trans ((hUy.others (fun k hk => by simp at hk; subst hk; exact HR1.out.cellsOnly)).from _), ⟨rfl, HAN⟩, HN1.out.setFar _ (by simp; omega), HR1.out.set 0 _, HU1.out.setCell (.inr (Nat.le_refl _)) _⟩
        case done =>
          rintro D xs W hD hxs ⟨⟨hn, hr, hU⟩, hA⟩ hK
          exact ⟨.inl rfl, D, _, rfl, hD, hK, hr, hU, Lib.hid (.inl ⟨rfl, hxs, hA.out⟩)⟩
        case stop =>
          rintro D c pre W hD hpre ⟨⟨rfl, hA⟩, hn, hr, hU⟩ hK
          refine wpIn_ret ?_
          exact ⟨.inr rfl, D, pre, rfl, hD, hK, hr, hU, Lib.hid (.inr ⟨rfl, hpre, hA.out⟩)⟩
      case cont =>
        rintro e a' wz ⟨he, D, pre, rfl, hD, hDk, hr, hU, HP⟩
        subst hfr
        have HR := Lib.hid hr
        have HU := Lib.hid hU
        have r0 := hr.cell 0 rfl
        have rf := hr.frz 0
        have HDk := Lib.hid hDk
        have hwD : w.heap.size ≤ D := by omega
        have hDlt : D < wz.heap.size := (Array.getElem?_eq_some_iff.1 hDk).1
        clear hr hU hDk
        rcases HP.out with ⟨rfl, hpp, hA⟩ | ⟨rfl, hpp, hA⟩
        · have HE := Lib.hid (HDN.out pre hpp hA)
          clear HP hpp hA he
          go_wp2
          have hk9 : (wz.setCell ⟨w.heap.size, 0, none⟩ (.bool true)).heap[D]? = some (.deferred (some [])) := (Below.heap_setCell _ _ _ _ (by simp; omega)).trans HDk.out
          refine ⟨by simp, .inl ⟨_, _, rfl, run_takeDeferred hk9, ?_⟩⟩
          have hB9 : Blk ((wz.setCell ⟨w.heap.size, 0, none⟩ (.bool true)).putObj D (.deferred none)) w.heap.size [.bool true] 4 := (World.putObj_heap_other (by omega)).trans (HR.out.set 0 _)
          exact ⟨.bool true, results_cellB rfl _ _ w.heap.size true rfl hB9, by rw [HE.out], (HU.out.setCell (.inr (Nat.le_refl _)) _).putObj' hwD _⟩
        · have HE := Lib.hid (HNT.out pre hpp hA)
          clear HP hpp hA he
          go_wp2
          refine ⟨by simp, .inl ⟨_, _, rfl, run_takeDeferred HDk.out, ?_⟩⟩
          have hB9 : Blk (wz.putObj D (.deferred none)) w.heap.size [.bool false] 4 := (World.putObj_heap_other (by omega)).trans HR.out
          exact ⟨.bool false, results_cellB rfl _ _ w.heap.size false rfl hB9, by rw [HE.out], HU.out.putObj' hwD _⟩
end Go.Proofs.YtigjingielnaoaaDoor
namespace Go.Proofs.YtigjingielnaoaaDoor
set_option linter.unusedVariables false
set_option linter.unusedSimpArgs false
set_option linter.unusedSectionVars false
open Go.RowKit
set_option linter.unusedVariables false

theorem infoStr : (Tryd.prog.info? 9).map (fun i => (i.zero, i.size, i.bytes)) = some (some (.string .empty), 1, 16) := by kernel_rfl
def strV (l : List Nat) : Value := .string (strOf l)
theorem strOf_snoc (s : ByteArray) (cur : List Nat) (i : Nat) (h : i < s.size) : strOf cur ++ s.extract i (i + 1) = strOf (cur ++ [s[i].toNat]) := by
  rw [← strOf_append]
  congr 1
  rw [← strOf_bytesOf (s.extract i (i + 1)), bytesOf_extract]
  congr 1
  rw [show i + 1 - i = 1 by omega, List.drop_eq_getElem_cons (by rw [length_bytesOf]; exact h), bytesOf_get s i h]; rfl
end Go.Proofs.YtigjingielnaoaaDoor
namespace Go.Proofs.YtigjingielnaoaaDoor
set_option linter.unusedVariables false
set_option linter.unusedSimpArgs false
set_option linter.unusedSectionVars false
open Go.RowKit
set_option linter.unusedVariables false
set_option linter.unusedSimpArgs false

/-- Does a text begin with "-"? -/
def begM (l : List Nat) : Bool := decide (l.take 1 = [45])
/-- TrimPrefix at "-". -/
def trimM (s : ByteArray) : ByteArray := if begM (bytesOf s) = true then s.extract 1 s.size else s
theorem begM_pos {l : List Nat} (h : begM l = true) : 1 ≤ l.length := by
  cases l with
  | nil => simp [begM] at h
  | cons a r => simp
set_option maxRecDepth 100000 in
theorem hasPreM_any (s : ByteArray) (w : World) (hs : s.size ≤ 9223372036854775807) : Calls Tryd.prog 133 #[.string s, .string { data := #[45] }] w fun e w' => e = .returned (.bool (begM (bytesOf s))) ∧ w = w' := by
  by_cases h0 : s.size = 0
  · have HE : Hid (begM (bytesOf s) = false) := Lib.hid (by
      have : bytesOf s = [] := List.eq_nil_of_length_eq_zero (by rw [length_bytesOf]; exact h0)
      rw [this]; rfl)
    go_enter Tryd.func133, Tryd.ntmps133
    go_wp2
    go_ret
    exact ⟨by rw [HE.out]; rfl, rfl⟩
  · have h1 : 1 ≤ s.size := by omega
    have HT : Hid (((s.extract 0 1).toList == [45]) = begM (bytesOf s)) := Lib.hid (by
      rw [toList_bytes, bytesOf_extract]; unfold begM; rw [Nat.sub_zero, List.drop_zero]; rfl)
    cases hb : begM (bytesOf s) with
    | true =>
      have t1 := HT.out.trans hb
      clear hb HT
      go_enter Tryd.func133, Tryd.ntmps133
      go_wp2
      go_ret
      exact ⟨rfl, rfl⟩
    | false =>
      have t1 := HT.out.trans hb
      clear hb HT
      go_enter Tryd.func133, Tryd.ntmps133
      go_wp2
      go_ret
      exact ⟨rfl, rfl⟩
theorem trimL_any (s : ByteArray) (w : World) (hs : s.size ≤ 9223372036854775807) : Calls Tryd.prog 126 #[.string s, .string { data := #[45] }] w fun e w' => e = .returned (.string (trimM s)) ∧ w = w' := by
  have HH := Lib.hid (fun w => hasPreM_any s w hs)
  cases hb : begM (bytesOf s) with
  | true =>
    have h1 : 1 ≤ s.size := by have := begM_pos hb; rw [length_bytesOf] at this; exact this
    have HV : Hid (trimM s = s.extract 1 s.size) := Lib.hid (if_pos hb)
    rw [hb] at HH
    clear hb
    go_enter Tryd.func126, Tryd.ntmps126
    go_wp2_with fail
    refine (HH.out _).mono ?_
    rintro e w' ⟨rfl, rfl⟩
    go_wp2
    go_ret
    exact ⟨by rw [HV.out]; rfl, rfl⟩
  | false =>
    have HV : Hid (trimM s = s) := Lib.hid (if_neg (by rw [hb]; decide))
    rw [hb] at HH
    clear hb
    go_enter Tryd.func126, Tryd.ntmps126
    go_wp2_with fail
    refine (HH.out _).mono ?_
    rintro e w' ⟨rfl, rfl⟩
    go_wp2
    go_ret
    exact ⟨by rw [HV.out]; rfl, rfl⟩
theorem trimM_any (s : ByteArray) (w : World) (hs : s.size ≤ 9223372036854775807) : Calls Tryd.prog 106 #[.string s, .string { data := #[45] }] w fun e w' => e = .returned (.string (trimM s)) ∧ w = w' := by
  have HH := Lib.hid (fun w => trimL_any s w hs)
  generalize trimM s = r at *
  go_enter Tryd.func106, Tryd.ntmps106
  go_wp2_with fail
  refine (HH.out _).mono ?_
  rintro e w' ⟨rfl, rfl⟩
  go_wp2
  go_ret
  exact ⟨rfl, rfl⟩
end Go.Proofs.YtigjingielnaoaaDoor
